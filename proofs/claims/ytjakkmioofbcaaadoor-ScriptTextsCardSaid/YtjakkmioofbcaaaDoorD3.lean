/- The walk over step at power. -/
import Derived.Test.YtjakkmioofbcaaaDoorD2
namespace Go.Proofs.YtjakkmioofbcaaaDoor
open Go.RowKit
def boolsV (l : List Bool) : List Value := l.map fun b => .bool b
theorem Kp.of_own {w : World} {base : Nat} {v : Value} {l : List Bool} (h : w.ownsRow base 4 1 v l.length (boolsV l)) : Kp w v l := by
  refine ⟨own_slice h, fun hl => ?_⟩
  rcases h.2 with ⟨_, h0⟩ | ⟨g, cap, cur, hv, hb, hr, hc, hm, hs, ht⟩
  · exact absurd (List.length_eq_zero_iff.1 h0) hl
  · subst hv
    refine ⟨g, 0, cap, rfl, (h.lt g rfl).2, fun i hi => ?_⟩
    rw [Nat.zero_add, h.cellAt i (by omega)]
    simp [boolsV, List.getD, hi]
theorem wpOp_of {P : Program} {ops : Array Oper} {Q : Exit → Act → World → Prop} {K : Act → World → Prop} {a : Act} {w : World} (i : Nat) (hi : decide (i < ops.size) = true) (hw : Region.wanted (ops.getD i op0) (yielded ops a.tmps) = true) (h : (ops.getD i op0).wp P a w K Q) : wpOp P ops Q i K a w := by
  have hi' : i < ops.size := by simpa using hi
  have ho : ops[i]? = some (ops.getD i op0) := by simp [Array.getD, hi']
  unfold wpOp
  rw [ho]
  simp only [hw, if_true]
  exact .inl h
theorem op_load1 {P : Program} {ops : Array Oper} {Q : Exit → Act → World → Prop} {K : Act → World → Prop} {a : Act} {w : World} (i : Nat) (hi : decide (i < ops.size) = true) (hw : Region.wanted (ops.getD i op0) (yielded ops a.tmps) = true) (ty : TypeId) (x : Operand) (hop : (ops.getD i op0).op = .load ty x) (d : Option Tmp) (hd : (ops.getD i op0).dst = d)
    (p : Addr) (v : Value) (hx : a.eval x = .pointer (some p)) (hrun : (Instr.loadAt ty (.pointer (some p))).run P w = .ok v w) (h : K (a.put d v) w) : wpOp P ops Q i K a w := by
  refine wpOp_of i hi hw ?_
  subst hd
  unfold Oper.wp execOp
  simp only [hop, hx, hrun, Sem.run_bind, Sem.run_pure, Result.andThen_ok]
  exact h
theorem op_store1 {P : Program} {ops : Array Oper} {Q : Exit → Act → World → Prop} {K : Act → World → Prop} {a : Act} {w w' : World} (i : Nat) (hi : decide (i < ops.size) = true) (hw : Region.wanted (ops.getD i op0) (yielded ops a.tmps) = true) (ty : TypeId) (x y : Operand) (hop : (ops.getD i op0).op = .store ty x y) (hd : (ops.getD i op0).dst = none)
    (p : Addr) (v : Value) (hx : a.eval x = .pointer (some p)) (hy : a.eval y = v) (hrun : (Instr.storeAt ty (.pointer (some p)) v).run P w = .ok () w') (h : K a w') : wpOp P ops Q i K a w := by
  refine wpOp_of i hi hw ?_
  unfold Oper.wp execOp
  simp only [hop, hx, hy, hrun, Sem.run_bind, Sem.run_pure, Result.andThen_ok]
  show K (a.put (ops.getD i op0).dst undef) w'
  rw [hd]
  exact h
theorem op_append1 {P : Program} {ops : Array Oper} {Q : Exit → Act → World → Prop} {K : Act → World → Prop} {a : Act} {w w' : World} (i : Nat) (hi : decide (i < ops.size) = true) (hw : Region.wanted (ops.getD i op0) (yielded ops a.tmps) = true) (s x : Operand) (t ty : TypeId) (hop : (ops.getD i op0).op = .call { callee := .builtin .append, args := #[s, x], argTypes := #[t, t] }) (hty : (ops.getD i op0).type = ty) (d : Option Tmp) (hd : (ops.getD i op0).dst = d)
    {v y v' : Value} (hs : a.eval s = v) (hx : a.eval x = y) (hr : (Builtin.append_ #[t, t] ty #[v, y]).run P w = .ok v' w') (h : K (a.put d v') w') : wpOp P ops Q i K a w := by
  refine wpOp_of i hi hw ?_
  subst hty
  subst hd
  exact op_append_run s x t hop hs hx hr h
theorem op_build1 {P : Program} {ops : Array Oper} {Q : Exit → Act → World → Prop} {K : Act → World → Prop} {a : Act} {w w' : World} (i : Nat) (hi : decide (i < ops.size) = true) (hw : Region.wanted (ops.getD i op0) (yielded ops a.tmps) = true) (op : Op) (hop : (ops.getD i op0).op = op) (ty : TypeId) (hty : (ops.getD i op0).type = ty) (d : Option Tmp) (hd : (ops.getD i op0).dst = d)
    (v : Value) (hrun : (execOp a.eval ⟨none, op, ty, "", #[], none⟩).run P w = .ok (.value v) w') (h : K (a.put d v) w') : wpOp P ops Q i K a w := by
  refine wpOp_of i hi hw ?_
  generalize ops.getD i op0 = o at *
  obtain ⟨d1, op1, ty1, p1, a1, g1⟩ := o
  simp only at hop hty hd
  subst hop
  subst hty
  subst hd
  have e : execOp a.eval ⟨d1, op1, ty1, p1, a1, g1⟩ = execOp a.eval ⟨none, op1, ty1, "", #[], none⟩ := rfl
  unfold Oper.wp
  rw [e, hrun]
  exact h
theorem any1 {P : Program} {md : Region.Mode} {ops : Array Oper} {Q : Exit → Act → World → Prop} {fuel : Nat} {listed : Array Bool} {a : Act} {w : World} (i : Nat) (hr : Region.ready md ops listed = [i]) (h : wpOp P ops Q i (wpAny P md ops Q fuel (listed.setIfInBounds i true)) a w) : wpAny P md ops Q (fuel + 1) listed a w :=
  wpAny_all hr (by simp) (fun j hj => by
    simp only [List.mem_singleton] at hj
    subst hj
    exact h)
theorem any2 {P : Program} {md : Region.Mode} {ops : Array Oper} {Q : Exit → Act → World → Prop} {fuel : Nat} {listed : Array Bool} {a : Act} {w : World} (i j : Nat) (hr : Region.ready md ops listed = [i, j]) (h : wpOp P ops Q i (wpAny P md ops Q fuel (listed.setIfInBounds i true)) a w) (h2 : wpOp P ops Q j (wpAny P md ops Q fuel (listed.setIfInBounds j true)) a w) : wpAny P md ops Q (fuel + 1) listed a w :=
  wpAny_all hr (by simp) (fun l hl => by
    simp only [List.mem_cons, List.not_mem_nil, or_false] at hl
    rcases hl with rfl | rfl
    · exact h
    · exact h2)
theorem load26 (w : World) (g i : Nat) (v : Value) (hc : w.cell? ⟨g, i, none⟩ = some v) : (Instr.loadAt 42 (.pointer (some ⟨g, i, none⟩))).run Tryd.prog w = .ok v w := by
  have h1 := Tryd.isAgg42
  go_simp
theorem load9 (w : World) (g i : Nat) (v : Value) (hc : w.cell? ⟨g, i, none⟩ = some v) : (Instr.loadAt 9 (.pointer (some ⟨g, i, none⟩))).run Tryd.prog w = .ok v w := by
  have h1 := Tryd.isAgg9
  go_simp
theorem store26 (w : World) (g i : Nat) (A : Option Addr) (n c : Nat) (v : Value) (hc : w.cell? ⟨g, i, none⟩ = some v) (hf : w.frozen? ⟨g, i, none⟩ = false) : (Instr.storeAt 42 (.pointer (some ⟨g, i, none⟩)) (.slice A n c)).run Tryd.prog w = .ok () (w.setCell ⟨g, i, none⟩ (.slice A n c)) := by
  have h1 := Tryd.isAgg42
  have h2 := Tryd.sizeOf42
  go_simp
theorem boolsV_append (a b : List Bool) : boolsV (a ++ b) = boolsV a ++ boolsV b := by simp [boolsV]
theorem own_setRow {w : World} {base g n : Nat} {v : Value} {xs : List Value} {cs : Array Value} (h : w.ownsRow base 4 1 v n xs) (hg : g < base) : (w.setRow g cs).ownsRow base 4 1 v n xs := by
  refine ⟨h.1, ?_⟩
  rcases h.2 with h2 | ⟨b, cap, cur, hv, hb, hr, hrest⟩
  · exact .inl h2
  · exact .inr ⟨b, cap, cur, hv, hb, by rw [setRow_other _ _ _ _ (by omega)]; exact hr, hrest⟩
theorem set_keep (k op : Int) (nm dt : List UInt8) (n : Int) (K K' : Value) (c : Fin 13 → Int) : (stL k op nm dt n K c).toArray.setIfInBounds 5 K' = (stL k op nm dt n K' c).toArray := rfl
set_option maxRecDepth 100000 in
set_option maxHeartbeats 2000000 in
theorem step17_power (v : Value) (ws : List (List UInt8)) (w : World) (hw : Ws w v ws) (h0 : ws ≠ []) (hx : ∀ x ∈ ws, x.length ≤ 100000) (hkk : ws.getD 0 [] = powerW) :
    Calls Tryd.prog 43 #[v] w fun e w' => StepEnd w.heap.size ws e w' ∧ Below w.heap.size w w' := by
  obtain ⟨b, o, cp, rfl, hlt, hcap, hc⟩ := hw.2 h0
  have HWS := Lib.hid hw
  have HC := Lib.hid hc
  have HX := Lib.hid hx
  have HLT := Lib.hid hlt
  have hlen : 0 < ws.length := List.length_pos_iff.2 h0
  have hlenI : (0 : Int) < (ws.length : Int) := by omega
  have HEX : Hid (∃ x, ws.getD 0 [] = x) := Lib.hid ⟨_, rfl⟩
  obtain ⟨x0, hx0⟩ := HEX.out
  have HCE0 : Hid (∀ W, Below w.heap.size w W → W.cell? ⟨b, o, none⟩ = some (.string (str x0))) := Lib.hid (fun W hb => by
    have := hc 0 hlen
    rw [hx0, Nat.add_zero] at this
    rw [hb.cell (p := ⟨b, o, none⟩) hlt]
    exact this)
  have HB2 : Hid (Below w.heap.size w ((w.alloc (.cells #[.int .i64 0, .int .i64 0, .string ⟨#[]⟩, .string ⟨#[]⟩, .int .i64 0, .slice none 0 0, .int .i64 0, .int .i64 0, .int .i64 0, .int .i64 0, .int .i64 0, .int .i64 0, .int .i64 0, .int .i64 0, .int .i64 0, .int .i64 0, .int .i64 0, .int .i64 0, .int .i64 0] 44)).alloc (.cells #[.int .i64 0, .int .i64 0, .string ⟨#[]⟩, .string ⟨#[]⟩, .int .i64 0, .slice none 0 0, .int .i64 0, .int .i64 0, .int .i64 0, .int .i64 0, .int .i64 0, .int .i64 0, .int .i64 0, .int .i64 0, .int .i64 0, .int .i64 0, .int .i64 0, .int .i64 0, .int .i64 0] 44))) := Lib.hid (((Below.refl _ _).alloc (Nat.le_refl _) _).alloc (by simp) _)
  have hc2 := HCE0.out _ HB2.out
  rw [hx0] at hkk
  have HX0 := Lib.hid hx0
  clear hc hx hw hx0 HEX hlt
  subst hkk
  have t1 : ((str powerW).toList == [102, 117, 115, 101]) = false := by rw [str_toList]; rfl
  have t2 : ((str powerW).toList == [112, 111, 119, 101, 114]) = true := by rw [str_toList]; rfl
  have HB3 : Hid (Below w.heap.size w ((w.alloc (.cells #[.int .i64 0, .int .i64 0, .string ⟨#[]⟩, .string ⟨#[]⟩, .int .i64 0, .slice none 0 0, .int .i64 0, .int .i64 0, .int .i64 0, .int .i64 0, .int .i64 0, .int .i64 0, .int .i64 0, .int .i64 0, .int .i64 0, .int .i64 0, .int .i64 0, .int .i64 0, .int .i64 0] 44)).alloc (.cells #[.int .i64 3, .int .i64 0, .string ⟨#[]⟩, .string ⟨#[]⟩, .int .i64 0, .slice none 0 0, .int .i64 0, .int .i64 0, .int .i64 0, .int .i64 0, .int .i64 0, .int .i64 0, .int .i64 0, .int .i64 0, .int .i64 0, .int .i64 0, .int .i64 0, .int .i64 0, .int .i64 0] 44))) := Lib.hid (((Below.refl _ _).alloc (Nat.le_refl _) _).alloc (by simp) _)
  by_cases h2 : ws.length = 2
  case neg =>
    have hl2 : ((ws.length : Int) == 2) = false := by simp only [beq_eq_false_iff_ne]; omega
    have HP : Hid (stepP ws = none) := Lib.hid (by rw [stepP, HX0.out, if_neg (by decide), if_pos rfl, if_neg (fun h => h2 h.1)])
    clear h2
    go_enter Tryd.func43, Tryd.ntmps43
    go_wp2_with fail
    have HROW0 : Hid (((w.alloc (.cells #[.int .i64 0, .int .i64 0, .string ⟨#[]⟩, .string ⟨#[]⟩, .int .i64 0, .slice none 0 0, .int .i64 0, .int .i64 0, .int .i64 0, .int .i64 0, .int .i64 0, .int .i64 0, .int .i64 0, .int .i64 0, .int .i64 0, .int .i64 0, .int .i64 0, .int .i64 0, .int .i64 0] 44)).alloc (.cells #[.int .i64 3, .int .i64 0, .string ⟨#[]⟩, .string ⟨#[]⟩, .int .i64 0, .slice none 0 0, .int .i64 0, .int .i64 0, .int .i64 0, .int .i64 0, .int .i64 0, .int .i64 0, .int .i64 0, .int .i64 0, .int .i64 0, .int .i64 0, .int .i64 0, .int .i64 0, .int .i64 0] 44)).heap[w.heap.size + 1]? = some (.cells (stL 3 0 [] [] 0 (.slice none 0 0) c0).toArray 44 (0, 0))) := Lib.hid (by have := heap_alloc_new (w.alloc (.cells #[.int .i64 0, .int .i64 0, .string ⟨#[]⟩, .string ⟨#[]⟩, .int .i64 0, .slice none 0 0, .int .i64 0, .int .i64 0, .int .i64 0, .int .i64 0, .int .i64 0, .int .i64 0, .int .i64 0, .int .i64 0, .int .i64 0, .int .i64 0, .int .i64 0, .int .i64 0, .int .i64 0] 44)) (.cells (stL 3 0 [] [] 0 (.slice none 0 0) c0).toArray 44); rwa [World.size_alloc] at this)
    have HRES : Hid (((w.alloc (.cells #[.int .i64 0, .int .i64 0, .string ⟨#[]⟩, .string ⟨#[]⟩, .int .i64 0, .slice none 0 0, .int .i64 0, .int .i64 0, .int .i64 0, .int .i64 0, .int .i64 0, .int .i64 0, .int .i64 0, .int .i64 0, .int .i64 0, .int .i64 0, .int .i64 0, .int .i64 0, .int .i64 0] 44)).alloc (.cells #[.int .i64 3, .int .i64 0, .string ⟨#[]⟩, .string ⟨#[]⟩, .int .i64 0, .slice none 0 0, .int .i64 0, .int .i64 0, .int .i64 0, .int .i64 0, .int .i64 0, .int .i64 0, .int .i64 0, .int .i64 0, .int .i64 0, .int .i64 0, .int .i64 0, .int .i64 0, .int .i64 0] 44)).heap[w.heap.size]? = some (.cells #[.int .i64 0, .int .i64 0, .string ⟨#[]⟩, .string ⟨#[]⟩, .int .i64 0, .slice none 0 0, .int .i64 0, .int .i64 0, .int .i64 0, .int .i64 0, .int .i64 0, .int .i64 0, .int .i64 0, .int .i64 0, .int .i64 0, .int .i64 0, .int .i64 0, .int .i64 0, .int .i64 0] 44 (0, 0))) := Lib.hid ((Below.heap_alloc _ _ _ (by simp)).trans (heap_alloc_new w _))
    have HSZ2 : Hid (w.heap.size + 2 ≤ ((w.alloc (.cells #[.int .i64 0, .int .i64 0, .string ⟨#[]⟩, .string ⟨#[]⟩, .int .i64 0, .slice none 0 0, .int .i64 0, .int .i64 0, .int .i64 0, .int .i64 0, .int .i64 0, .int .i64 0, .int .i64 0, .int .i64 0, .int .i64 0, .int .i64 0, .int .i64 0, .int .i64 0, .int .i64 0] 44)).alloc (.cells #[.int .i64 3, .int .i64 0, .string ⟨#[]⟩, .string ⟨#[]⟩, .int .i64 0, .slice none 0 0, .int .i64 0, .int .i64 0, .int .i64 0, .int .i64 0, .int .i64 0, .int .i64 0, .int .i64 0, .int .i64 0, .int .i64 0, .int .i64 0, .int .i64 0, .int .i64 0, .int .i64 0] 44)).heap.size) := Lib.hid (by simp)
    have HB : Hid (Below w.heap.size w ((w.alloc (.cells #[.int .i64 0, .int .i64 0, .string ⟨#[]⟩, .string ⟨#[]⟩, .int .i64 0, .slice none 0 0, .int .i64 0, .int .i64 0, .int .i64 0, .int .i64 0, .int .i64 0, .int .i64 0, .int .i64 0, .int .i64 0, .int .i64 0, .int .i64 0, .int .i64 0, .int .i64 0, .int .i64 0] 44)).alloc (.cells #[.int .i64 3, .int .i64 0, .string ⟨#[]⟩, .string ⟨#[]⟩, .int .i64 0, .slice none 0 0, .int .i64 0, .int .i64 0, .int .i64 0, .int .i64 0, .int .i64 0, .int .i64 0, .int .i64 0, .int .i64 0, .int .i64 0, .int .i64 0, .int .i64 0, .int .i64 0, .int .i64 0] 44))) := HB3
    clear hc2 HB2 HB3
    generalize hW3 : ((w.alloc (.cells #[.int .i64 0, .int .i64 0, .string ⟨#[]⟩, .string ⟨#[]⟩, .int .i64 0, .slice none 0 0, .int .i64 0, .int .i64 0, .int .i64 0, .int .i64 0, .int .i64 0, .int .i64 0, .int .i64 0, .int .i64 0, .int .i64 0, .int .i64 0, .int .i64 0, .int .i64 0, .int .i64 0] 44)).alloc (.cells #[.int .i64 3, .int .i64 0, .string ⟨#[]⟩, .string ⟨#[]⟩, .int .i64 0, .slice none 0 0, .int .i64 0, .int .i64 0, .int .i64 0, .int .i64 0, .int .i64 0, .int .i64 0, .int .i64 0, .int .i64 0, .int .i64 0, .int .i64 0, .int .i64 0, .int .i64 0, .int .i64 0] 44)) = wr at *
    clear hW3
    go_quiet (fail)
    have HROW5 : Hid ((wr.drewN nq).heap[w.heap.size + 1]? = some (.cells (stL 3 0 [] [] 0 (.slice none 0 0) c0).toArray 44 (0, 0))) := HROW0
    have HGR : Hid ((wr.drewN nq).heap[w.heap.size]? = some (.cells #[.int .i64 0, .int .i64 0, .string ⟨#[]⟩, .string ⟨#[]⟩, .int .i64 0, .slice none 0 0, .int .i64 0, .int .i64 0, .int .i64 0, .int .i64 0, .int .i64 0, .int .i64 0, .int .i64 0, .int .i64 0, .int .i64 0, .int .i64 0, .int .i64 0, .int .i64 0, .int .i64 0] 44 (0, 0))) := HRES
    have HBW : Hid (Below w.heap.size w (wr.drewN nq)) := Lib.hid (below_drewN HB.out _)
    have HSLT : Hid (w.heap.size + 1 < (wr.drewN nq).drew.heap.size) := Lib.hid (by have := HSZ2.out; show w.heap.size + 1 < wr.heap.size; omega)
    have HRLT : Hid (w.heap.size < (wr.drewN nq).drew.heap.size) := Lib.hid (by have := HSZ2.out; show w.heap.size < wr.heap.size; omega)
    have HEL : Hid (∃ L, stL 3 0 [] [] 0 (.slice none 0 0) c0 = L) := Lib.hid ⟨_, rfl⟩
    obtain ⟨L, hL⟩ := HEL.out
    have HLL : Hid (stL 3 0 [] [] 0 (.slice none 0 0) c0 = L) := Lib.hid hL
    have HIL : Hid ((Tryd.prog.info? 44).map (·.size) = some L.length) := Lib.hid (by rw [← hL]; exact info30)
    have HIL2 : Hid ((Tryd.prog.info? 44).map (·.size) = some L.toArray.size) := Lib.hid (by rw [← hL]; exact info30)
    have HOS : Hid ((#[.int .i64 0, .int .i64 0, .string ⟨#[]⟩, .string ⟨#[]⟩, .int .i64 0, .slice none 0 0, .int .i64 0, .int .i64 0, .int .i64 0, .int .i64 0, .int .i64 0, .int .i64 0, .int .i64 0, .int .i64 0, .int .i64 0, .int .i64 0, .int .i64 0, .int .i64 0, .int .i64 0] : Array Value).size = L.toArray.size) := Lib.hid (by rw [← hL]; rfl)
    have HOL : Hid (L.toArray.all (·.oneCell') = true) := Lib.hid (by rw [← hL]; exact stL_one _ _ _ _ _ _ _ _ _)
    have HRL : Hid ((wr.drewN nq).rangeAt (w.heap.size + 1) 0 L) := Lib.hid (by rw [← hL]; exact range_of_row (HROW5.out))
    clear hL HEL
    go_wp2_with fail
    refine wp_region_held_drew (S := fun W => W.rangeAt (w.heap.size + 1) 0 L) (by kernel_rfl) HRL.out (fun hSx => ?_)
    refine wpAnyH_take (i := 0) (oi := ⟨some 84, _, _, _, _, none⟩) (v := .agg L.toArray) rfl (by kernel_rfl) (by kernel_rfl) (by kernel_rfl) (fun _ _ _ h => h) (yieldsIf_load_mid (by kernel_rfl) 44 (.tmp 4) rfl (w.heap.size + 1) 0 rfl L _ (fun W hW => hW) Tryd.underlying44 rfl HIL.out) hSx ?_
    try simp only [Act.put, List.setIfInBounds_toArray]
    refine wpAnyH_take (i := 1) (oi := ⟨some 85, _, _, _, _, none⟩) (v := .bool false) rfl (by kernel_rfl) (by kernel_rfl) (by kernel_rfl) (fun _ _ _ h => h) (Or.inl ⟨by kernel_rfl, ?_⟩) hSx ?_
    · intro wx hSx2; clear hSx; go_simp
    try simp only [Act.put, List.setIfInBounds_toArray]
    refine wpAnyH_take (i := 2) (oi := ⟨some 86, _, _, _, _, none⟩) (v := .bool false) rfl (by kernel_rfl) (by kernel_rfl) (by kernel_rfl) (fun _ _ _ h => h) (Or.inl ⟨by kernel_rfl, ?_⟩) hSx ?_
    · intro wx hSx2; clear hSx; go_simp
    try simp only [Act.put, List.setIfInBounds_toArray]
    refine wpAnyH_take (i := 3) (oi := ⟨some 87, _, _, _, _, some (2, true)⟩) (v := undef) rfl (by kernel_rfl) (by kernel_rfl) (by kernel_rfl) (fun _ _ _ h => h) (Or.inr ⟨by kernel_rfl, rfl⟩) hSx ?_
    try simp only [Act.put, List.setIfInBounds_toArray]
    refine wpAnyH_take (i := 4) (oi := ⟨some 88, _, _, _, _, some (2, true)⟩) (v := undef) rfl (by kernel_rfl) (by kernel_rfl) (by kernel_rfl) (fun _ _ _ h => h) (Or.inr ⟨by kernel_rfl, rfl⟩) hSx ?_
    try simp only [Act.put, List.setIfInBounds_toArray]
    refine wpAnyH_take (i := 5) (oi := ⟨some 89, _, _, _, _, some (2, true)⟩) (v := undef) rfl (by kernel_rfl) (by kernel_rfl) (by kernel_rfl) (fun _ _ _ h => h) (Or.inr ⟨by kernel_rfl, rfl⟩) hSx ?_
    try simp only [Act.put, List.setIfInBounds_toArray]
    refine wpAnyH_take (i := 6) (oi := ⟨some 90, _, _, _, _, none⟩) (v := .bool false) rfl (by kernel_rfl) (by kernel_rfl) (by kernel_rfl) (fun _ _ _ h => h) (Or.inl ⟨by kernel_rfl, ?_⟩) hSx ?_
    · intro wx hSx2; clear hSx; go_simp
    try simp only [Act.put, List.setIfInBounds_toArray]
    have HGZ : Hid (((wr.drewN nq)).drew.heap[w.heap.size]? = some (.cells #[.int .i64 0, .int .i64 0, .string ⟨#[]⟩, .string ⟨#[]⟩, .int .i64 0, .slice none 0 0, .int .i64 0, .int .i64 0, .int .i64 0, .int .i64 0, .int .i64 0, .int .i64 0, .int .i64 0, .int .i64 0, .int .i64 0, .int .i64 0, .int .i64 0, .int .i64 0, .int .i64 0] 44 (0, 0))) := HGR
    have HBZ : Hid (Below w.heap.size w ((wr.drewN nq)).drew) := Lib.hid (below_drew HBW.out)
    refine store_ready 7 (by kernel_rfl) (by kernel_rfl) (by kernel_rfl) 44 (.tmp 2) (.tmp 84) (by kernel_rfl) (by kernel_rfl) w.heap.size L.toArray (by kernel_rfl) (by kernel_rfl) 44 _ HGZ.out HIL2.out HOS.out HOL.out (fun j u hj => (setRow_cell_other (by omega)).trans (hSx j u hj)) (fun hSy => ?_)
    clear hSx
    have hSx := hSy
    clear hSy
    try simp only [Act.put, List.setIfInBounds_toArray]
    refine wpAnyH_take (i := 8) (oi := ⟨some 3, _, _, _, _, none⟩) (v := .bool false) rfl (by kernel_rfl) (by kernel_rfl) (by kernel_rfl) (fun _ _ _ h => h) (Or.inl ⟨by kernel_rfl, ?_⟩) hSx ?_
    · intro wx hSx2; clear hSx; go_simp
    try simp only [Act.put, List.setIfInBounds_toArray]
    refine wpAnyH_done (by kernel_rfl) ?_ _
    go_wp2
    refine bodyPost_ret (results_row2 rfl _ _ w.heap.size 44 L.toArray (0, 0) _ rfl (setRow_heap _ _ _ _ _ _ HGZ.out) Tryd.underlying44 rfl HIL2.out) rfl ?_
    exact ⟨⟨⟨3, 0, [], [], 0, [], c0⟩, none, 0, Kp.nil _, noA, ⟨by simp, by simp, by simp⟩, .inr ⟨by rw [← HLL.out]; rfl, HP.out⟩⟩, below_setRow HBZ.out (Nat.le_refl _) _⟩
  have hl2 : ((ws.length : Int) == 2) = true := by simp only [beq_iff_eq]; omega
  have hi1 : (1 : Int) < (ws.length : Int) := by omega
  obtain ⟨x1, hx1⟩ : ∃ x, ws.getD 1 [] = x := ⟨_, rfl⟩
  have HCE1 : Hid (∀ W, Below w.heap.size w W → W.cell? ⟨b, o + 1, none⟩ = some (.string (str x1))) := Lib.hid (fun W hb => by rw [hb.cell (p := ⟨b, o + 1, none⟩) HLT.out]; have := HC.out 1 (by omega); rw [hx1] at this; exact this)
  have hc3 := HCE1.out _ HB3.out
  have hxl : x1.length ≤ 100000 := by have := HX.out (ws.getD 1 []) (by simp [List.getD, show 1 < ws.length by omega]); rw [hx1] at this; exact this
  have HXL := Lib.hid hxl
  have HPE : Hid (stepP ws = (if tru (keepOf x1) = x1 then fin ⟨3, 0, [], [], 0, keepOf x1, c0⟩ else none)) := Lib.hid (by
    rw [stepP, HX0.out, if_neg (by decide), if_pos rfl, hx1]
    by_cases h : tru (keepOf x1) = x1
    · rw [if_pos ⟨h2, h⟩, if_pos h]
    · rw [if_neg (fun q => h q.2), if_neg h])
  clear h2 hx1
  by_cases h45 : x1 = [45]
  case pos =>
    have hko : keepOf x1 = [] := if_pos h45
    have HKO := Lib.hid hko
    have t45 : ((str x1).toList == [45]) = true := by rw [str_toList]; simpa using h45
    clear h45
    go_enter Tryd.func43, Tryd.ntmps43
    go_wp2_with fail
    have HROW0 : Hid (((w.alloc (.cells #[.int .i64 0, .int .i64 0, .string ⟨#[]⟩, .string ⟨#[]⟩, .int .i64 0, .slice none 0 0, .int .i64 0, .int .i64 0, .int .i64 0, .int .i64 0, .int .i64 0, .int .i64 0, .int .i64 0, .int .i64 0, .int .i64 0, .int .i64 0, .int .i64 0, .int .i64 0, .int .i64 0] 44)).alloc (.cells #[.int .i64 3, .int .i64 0, .string ⟨#[]⟩, .string ⟨#[]⟩, .int .i64 0, .slice none 0 0, .int .i64 0, .int .i64 0, .int .i64 0, .int .i64 0, .int .i64 0, .int .i64 0, .int .i64 0, .int .i64 0, .int .i64 0, .int .i64 0, .int .i64 0, .int .i64 0, .int .i64 0] 44)).heap[w.heap.size + 1]? = some (.cells (stL 3 0 [] [] 0 (.slice none 0 0) c0).toArray 44 (0, 0))) := Lib.hid (by have := heap_alloc_new (w.alloc (.cells #[.int .i64 0, .int .i64 0, .string ⟨#[]⟩, .string ⟨#[]⟩, .int .i64 0, .slice none 0 0, .int .i64 0, .int .i64 0, .int .i64 0, .int .i64 0, .int .i64 0, .int .i64 0, .int .i64 0, .int .i64 0, .int .i64 0, .int .i64 0, .int .i64 0, .int .i64 0, .int .i64 0] 44)) (.cells (stL 3 0 [] [] 0 (.slice none 0 0) c0).toArray 44); rwa [World.size_alloc] at this)
    have HRES : Hid (((w.alloc (.cells #[.int .i64 0, .int .i64 0, .string ⟨#[]⟩, .string ⟨#[]⟩, .int .i64 0, .slice none 0 0, .int .i64 0, .int .i64 0, .int .i64 0, .int .i64 0, .int .i64 0, .int .i64 0, .int .i64 0, .int .i64 0, .int .i64 0, .int .i64 0, .int .i64 0, .int .i64 0, .int .i64 0] 44)).alloc (.cells #[.int .i64 3, .int .i64 0, .string ⟨#[]⟩, .string ⟨#[]⟩, .int .i64 0, .slice none 0 0, .int .i64 0, .int .i64 0, .int .i64 0, .int .i64 0, .int .i64 0, .int .i64 0, .int .i64 0, .int .i64 0, .int .i64 0, .int .i64 0, .int .i64 0, .int .i64 0, .int .i64 0] 44)).heap[w.heap.size]? = some (.cells #[.int .i64 0, .int .i64 0, .string ⟨#[]⟩, .string ⟨#[]⟩, .int .i64 0, .slice none 0 0, .int .i64 0, .int .i64 0, .int .i64 0, .int .i64 0, .int .i64 0, .int .i64 0, .int .i64 0, .int .i64 0, .int .i64 0, .int .i64 0, .int .i64 0, .int .i64 0, .int .i64 0] 44 (0, 0))) := Lib.hid ((Below.heap_alloc _ _ _ (by simp)).trans (heap_alloc_new w _))
    have HSZ2 : Hid (w.heap.size + 2 ≤ ((w.alloc (.cells #[.int .i64 0, .int .i64 0, .string ⟨#[]⟩, .string ⟨#[]⟩, .int .i64 0, .slice none 0 0, .int .i64 0, .int .i64 0, .int .i64 0, .int .i64 0, .int .i64 0, .int .i64 0, .int .i64 0, .int .i64 0, .int .i64 0, .int .i64 0, .int .i64 0, .int .i64 0, .int .i64 0] 44)).alloc (.cells #[.int .i64 3, .int .i64 0, .string ⟨#[]⟩, .string ⟨#[]⟩, .int .i64 0, .slice none 0 0, .int .i64 0, .int .i64 0, .int .i64 0, .int .i64 0, .int .i64 0, .int .i64 0, .int .i64 0, .int .i64 0, .int .i64 0, .int .i64 0, .int .i64 0, .int .i64 0, .int .i64 0] 44)).heap.size) := Lib.hid (by simp)
    have HB : Hid (Below w.heap.size w ((w.alloc (.cells #[.int .i64 0, .int .i64 0, .string ⟨#[]⟩, .string ⟨#[]⟩, .int .i64 0, .slice none 0 0, .int .i64 0, .int .i64 0, .int .i64 0, .int .i64 0, .int .i64 0, .int .i64 0, .int .i64 0, .int .i64 0, .int .i64 0, .int .i64 0, .int .i64 0, .int .i64 0, .int .i64 0] 44)).alloc (.cells #[.int .i64 3, .int .i64 0, .string ⟨#[]⟩, .string ⟨#[]⟩, .int .i64 0, .slice none 0 0, .int .i64 0, .int .i64 0, .int .i64 0, .int .i64 0, .int .i64 0, .int .i64 0, .int .i64 0, .int .i64 0, .int .i64 0, .int .i64 0, .int .i64 0, .int .i64 0, .int .i64 0] 44))) := HB3
    obtain ⟨AA, hAA⟩ : ∃ AA : Option Addr, AA = none := ⟨_, rfl⟩
    obtain ⟨ac, hac⟩ : ∃ ac : Nat, ac = 0 := ⟨_, rfl⟩
    have HROWk : Hid (((w.alloc (.cells #[.int .i64 0, .int .i64 0, .string ⟨#[]⟩, .string ⟨#[]⟩, .int .i64 0, .slice none 0 0, .int .i64 0, .int .i64 0, .int .i64 0, .int .i64 0, .int .i64 0, .int .i64 0, .int .i64 0, .int .i64 0, .int .i64 0, .int .i64 0, .int .i64 0, .int .i64 0, .int .i64 0] 44)).alloc (.cells #[.int .i64 3, .int .i64 0, .string ⟨#[]⟩, .string ⟨#[]⟩, .int .i64 0, .slice none 0 0, .int .i64 0, .int .i64 0, .int .i64 0, .int .i64 0, .int .i64 0, .int .i64 0, .int .i64 0, .int .i64 0, .int .i64 0, .int .i64 0, .int .i64 0, .int .i64 0, .int .i64 0] 44)).heap[w.heap.size + 1]? = some (.cells (stL 3 0 [] [] 0 (.slice AA (keepOf x1).length ac) c0).toArray 44 (0, 0))) := Lib.hid (by rw [hko, hAA, hac]; exact HROW0.out)
    have HOWN : Hid (((w.alloc (.cells #[.int .i64 0, .int .i64 0, .string ⟨#[]⟩, .string ⟨#[]⟩, .int .i64 0, .slice none 0 0, .int .i64 0, .int .i64 0, .int .i64 0, .int .i64 0, .int .i64 0, .int .i64 0, .int .i64 0, .int .i64 0, .int .i64 0, .int .i64 0, .int .i64 0, .int .i64 0, .int .i64 0] 44)).alloc (.cells #[.int .i64 3, .int .i64 0, .string ⟨#[]⟩, .string ⟨#[]⟩, .int .i64 0, .slice none 0 0, .int .i64 0, .int .i64 0, .int .i64 0, .int .i64 0, .int .i64 0, .int .i64 0, .int .i64 0, .int .i64 0, .int .i64 0, .int .i64 0, .int .i64 0, .int .i64 0, .int .i64 0] 44)).ownsRow (w.heap.size + 2) 4 1 (.slice AA (keepOf x1).length ac) (keepOf x1).length (boolsV (keepOf x1))) := Lib.hid (by rw [hko, hAA, hac]; exact World.ownsRow_nil _ _ _ _)
    have HFK : Hid ((keepOf x1).length ≤ 100000) := Lib.hid (by rw [hko]; simp)
    clear hko hAA hac hc3 hc2 HB2 HB3 HROW0
    generalize hW3 : ((w.alloc (.cells #[.int .i64 0, .int .i64 0, .string ⟨#[]⟩, .string ⟨#[]⟩, .int .i64 0, .slice none 0 0, .int .i64 0, .int .i64 0, .int .i64 0, .int .i64 0, .int .i64 0, .int .i64 0, .int .i64 0, .int .i64 0, .int .i64 0, .int .i64 0, .int .i64 0, .int .i64 0, .int .i64 0] 44)).alloc (.cells #[.int .i64 3, .int .i64 0, .string ⟨#[]⟩, .string ⟨#[]⟩, .int .i64 0, .slice none 0 0, .int .i64 0, .int .i64 0, .int .i64 0, .int .i64 0, .int .i64 0, .int .i64 0, .int .i64 0, .int .i64 0, .int .i64 0, .int .i64 0, .int .i64 0, .int .i64 0, .int .i64 0] 44)) = wr at *
    clear hW3
    have hc1 := HCE1.out _ HB.out
    have hc5 : wr.cell? ⟨w.heap.size + 1, 5, none⟩ = some (.slice AA (keepOf x1).length ac) := cell_of_row wr _ 5 _ 44 _ HROWk.out
    have HSC : Hid (∀ W, Below (w.heap.size + 2) wr W → W.cell? ⟨w.heap.size + 1, 5, none⟩ = some (.slice AA (keepOf x1).length ac) ∧ W.cell? ⟨b, o + 1, none⟩ = some (.string (str x1))) := Lib.hid (fun W hb => ⟨cell_of_row W _ 5 _ 44 _ ((hb.block (w.heap.size + 1) (by omega)).trans HROWk.out), HCE1.out W (HB.out.trans (hb.mono (by omega)))⟩)
    have HTR := Lib.hid (truths31 _ (keepOf x1) (by have := HFK.out; omega) wr.drew (Kp.of_own HOWN.out.drew))
    have htb : ((str (tru (keepOf x1))).toList == (str x1).toList) = decide (tru (keepOf x1) = x1) := str_beq _ _
    have HKW : Hid (∀ W', Below wr.heap.size wr W' → W'.ownsRow (w.heap.size + 2) 4 1 (.slice AA (keepOf x1).length ac) (keepOf x1).length (boolsV (keepOf x1))) := Lib.hid (fun W' hb => own_below HOWN.out hb)
    have HFA : Hid (∀ a : Addr, AA = some a → w.heap.size ≤ a.block) := Lib.hid (fun a ha => by have := own_lo HOWN.out a ha; omega)
    have HTQ := Lib.hid (rfl : tru (keepOf x1) = tru (keepOf x1))
    generalize htr : tru (keepOf x1) = tk at *
    generalize hkk : keepOf x1 = kk at *
    clear htr hkk HTQ HKO
    have h0S := HSC.out wr.drew (bdrew (Below.refl _ _))
    have H0S := Lib.hid h0S
    clear h0S
    cases hq : decide (tk = x1)
    case false =>
      rw [hq] at htb
      have HP : Hid (stepP ws = none) := Lib.hid (by rw [HPE.out, if_neg (by simpa using hq)])
      clear hq
      go_wp2_with fail
      go_region_held3 (fun W => W.cell? ⟨w.heap.size + 1, 5, none⟩ = some (.slice AA kk.length ac) ∧ W.cell? ⟨b, o + 1, none⟩ = some (.string (str x1))) (first | exact H0S.out | exact HS5.out) (first
        | (go_at_call 56; (with_reducible refine HTR.out.mono ?_); rintro e w5 ⟨rfl, hb5⟩; have HB5 : Hid (Below wr.heap.size wr w5) := Lib.hid ((bdrew (Below.refl _ _)).trans hb5); have HS5 := Lib.hid (HSC.out w5 (HB5.out.mono HSZ2.out)); clear hb5))
      have HROW5 : Hid (w5.heap[w.heap.size + 1]? = some (.cells (stL 3 0 [] [] 0 (.slice AA kk.length ac) c0).toArray 44 (0, 0))) := Lib.hid ((HB5.out.block (w.heap.size + 1) (by have := HSZ2.out; omega)).trans HROWk.out)
      have HGR : Hid (w5.heap[w.heap.size]? = some (.cells #[.int .i64 0, .int .i64 0, .string ⟨#[]⟩, .string ⟨#[]⟩, .int .i64 0, .slice none 0 0, .int .i64 0, .int .i64 0, .int .i64 0, .int .i64 0, .int .i64 0, .int .i64 0, .int .i64 0, .int .i64 0, .int .i64 0, .int .i64 0, .int .i64 0, .int .i64 0, .int .i64 0] 44 (0, 0))) := Lib.hid ((HB5.out.block w.heap.size (by have := HSZ2.out; omega)).trans HRES.out)
      have HBW : Hid (Below w.heap.size w w5) := Lib.hid (HB.out.trans (HB5.out.mono HB.out.size))
      have HSLT : Hid (w.heap.size + 1 < w5.drew.heap.size) := Lib.hid (by have := HB5.out.size; have := HSZ2.out; show w.heap.size + 1 < w5.heap.size; omega)
      have HRLT : Hid (w.heap.size < w5.drew.heap.size) := Lib.hid (by have := HB5.out.size; have := HSZ2.out; show w.heap.size < w5.heap.size; omega)
      have HKP : Hid (∀ W' X, Below w5.heap.size w5 W' → Kp (W'.setRow w.heap.size X) (.slice AA kk.length ac) kk) := Lib.hid (fun W' X hb => Kp.of_own (own_setRow (HKW.out W' (HB5.out.trans (hb.mono HB5.out.size))) (by omega)))
      have HEL : Hid (∃ L, stL 3 0 [] [] 0 (.slice AA kk.length ac) c0 = L) := Lib.hid ⟨_, rfl⟩
      obtain ⟨L, hL⟩ := HEL.out
      have HLL : Hid (stL 3 0 [] [] 0 (.slice AA kk.length ac) c0 = L) := Lib.hid hL
      have HIL : Hid ((Tryd.prog.info? 44).map (·.size) = some L.length) := Lib.hid (by rw [← hL]; exact info30)
      have HIL2 : Hid ((Tryd.prog.info? 44).map (·.size) = some L.toArray.size) := Lib.hid (by rw [← hL]; exact info30)
      have HOS : Hid ((#[.int .i64 0, .int .i64 0, .string ⟨#[]⟩, .string ⟨#[]⟩, .int .i64 0, .slice none 0 0, .int .i64 0, .int .i64 0, .int .i64 0, .int .i64 0, .int .i64 0, .int .i64 0, .int .i64 0, .int .i64 0, .int .i64 0, .int .i64 0, .int .i64 0, .int .i64 0, .int .i64 0] : Array Value).size = L.toArray.size) := Lib.hid (by rw [← hL]; rfl)
      have HOL : Hid (L.toArray.all (·.oneCell') = true) := Lib.hid (by rw [← hL]; exact stL_one _ _ _ _ _ _ _ _ _)
      have HRL : Hid (w5.rangeAt (w.heap.size + 1) 0 L) := Lib.hid (by rw [← hL]; exact range_of_row (HROW5.out))
      clear hL HEL
      go_wp2_with fail
      refine wp_region_held_drew (S := fun W => W.rangeAt (w.heap.size + 1) 0 L) (by kernel_rfl) HRL.out (fun hSx => ?_)
      refine wpAnyH_take (i := 0) (oi := ⟨some 84, _, _, _, _, none⟩) (v := .agg L.toArray) rfl (by kernel_rfl) (by kernel_rfl) (by kernel_rfl) (fun _ _ _ h => h) (yieldsIf_load_mid (by kernel_rfl) 44 (.tmp 4) rfl (w.heap.size + 1) 0 rfl L _ (fun W hW => hW) Tryd.underlying44 rfl HIL.out) hSx ?_
      try simp only [Act.put, List.setIfInBounds_toArray]
      refine wpAnyH_take (i := 1) (oi := ⟨some 85, _, _, _, _, none⟩) (v := .bool false) rfl (by kernel_rfl) (by kernel_rfl) (by kernel_rfl) (fun _ _ _ h => h) (Or.inl ⟨by kernel_rfl, ?_⟩) hSx ?_
      · intro wx hSx2; clear hSx; go_simp
      try simp only [Act.put, List.setIfInBounds_toArray]
      refine wpAnyH_take (i := 2) (oi := ⟨some 86, _, _, _, _, none⟩) (v := .bool false) rfl (by kernel_rfl) (by kernel_rfl) (by kernel_rfl) (fun _ _ _ h => h) (Or.inl ⟨by kernel_rfl, ?_⟩) hSx ?_
      · intro wx hSx2; clear hSx; go_simp
      try simp only [Act.put, List.setIfInBounds_toArray]
      refine wpAnyH_take (i := 3) (oi := ⟨some 87, _, _, _, _, some (2, true)⟩) (v := undef) rfl (by kernel_rfl) (by kernel_rfl) (by kernel_rfl) (fun _ _ _ h => h) (Or.inr ⟨by kernel_rfl, rfl⟩) hSx ?_
      try simp only [Act.put, List.setIfInBounds_toArray]
      refine wpAnyH_take (i := 4) (oi := ⟨some 88, _, _, _, _, some (2, true)⟩) (v := undef) rfl (by kernel_rfl) (by kernel_rfl) (by kernel_rfl) (fun _ _ _ h => h) (Or.inr ⟨by kernel_rfl, rfl⟩) hSx ?_
      try simp only [Act.put, List.setIfInBounds_toArray]
      refine wpAnyH_take (i := 5) (oi := ⟨some 89, _, _, _, _, some (2, true)⟩) (v := undef) rfl (by kernel_rfl) (by kernel_rfl) (by kernel_rfl) (fun _ _ _ h => h) (Or.inr ⟨by kernel_rfl, rfl⟩) hSx ?_
      try simp only [Act.put, List.setIfInBounds_toArray]
      refine wpAnyH_take (i := 6) (oi := ⟨some 90, _, _, _, _, none⟩) (v := .bool false) rfl (by kernel_rfl) (by kernel_rfl) (by kernel_rfl) (fun _ _ _ h => h) (Or.inl ⟨by kernel_rfl, ?_⟩) hSx ?_
      · intro wx hSx2; clear hSx; go_simp
      try simp only [Act.put, List.setIfInBounds_toArray]
      have HGZ : Hid ((w5).drew.heap[w.heap.size]? = some (.cells #[.int .i64 0, .int .i64 0, .string ⟨#[]⟩, .string ⟨#[]⟩, .int .i64 0, .slice none 0 0, .int .i64 0, .int .i64 0, .int .i64 0, .int .i64 0, .int .i64 0, .int .i64 0, .int .i64 0, .int .i64 0, .int .i64 0, .int .i64 0, .int .i64 0, .int .i64 0, .int .i64 0] 44 (0, 0))) := HGR
      have HBZ : Hid (Below w.heap.size w (w5).drew) := Lib.hid (below_drew HBW.out)
      refine store_ready 7 (by kernel_rfl) (by kernel_rfl) (by kernel_rfl) 44 (.tmp 2) (.tmp 84) (by kernel_rfl) (by kernel_rfl) w.heap.size L.toArray (by kernel_rfl) (by kernel_rfl) 44 _ HGZ.out HIL2.out HOS.out HOL.out (fun j u hj => (setRow_cell_other (by omega)).trans (hSx j u hj)) (fun hSy => ?_)
      clear hSx
      have hSx := hSy
      clear hSy
      try simp only [Act.put, List.setIfInBounds_toArray]
      refine wpAnyH_take (i := 8) (oi := ⟨some 3, _, _, _, _, none⟩) (v := .bool false) rfl (by kernel_rfl) (by kernel_rfl) (by kernel_rfl) (fun _ _ _ h => h) (Or.inl ⟨by kernel_rfl, ?_⟩) hSx ?_
      · intro wx hSx2; clear hSx; go_simp
      try simp only [Act.put, List.setIfInBounds_toArray]
      refine wpAnyH_done (by kernel_rfl) ?_ _
      go_wp2
      refine bodyPost_ret (results_row2 rfl _ _ w.heap.size 44 L.toArray (0, 0) _ rfl (setRow_heap _ _ _ _ _ _ HGZ.out) Tryd.underlying44 rfl HIL2.out) rfl ?_
      exact ⟨⟨⟨3, 0, [], [], 0, kk, c0⟩, AA, ac, HKP.out _ _ (bdrew (Below.refl _ _)), HFA.out, ⟨by simp, by simp, HFK.out⟩, .inr ⟨by rw [← HLL.out]; rfl, HP.out⟩⟩, below_setRow HBZ.out (Nat.le_refl _) _⟩
    case true =>
      rw [hq] at htb
      have HPF : Hid (stepP ws = fin ⟨3, 0, [], [], 0, kk, c0⟩) := Lib.hid (by rw [HPE.out, if_pos (by simpa using hq)])
      clear hq
      go_wp2_with fail
      go_region_held3 (fun W => W.cell? ⟨w.heap.size + 1, 5, none⟩ = some (.slice AA kk.length ac) ∧ W.cell? ⟨b, o + 1, none⟩ = some (.string (str x1))) (first | exact H0S.out | exact HS5.out) (first
        | (go_at_call 56; (with_reducible refine HTR.out.mono ?_); rintro e w5 ⟨rfl, hb5⟩; have HB5 : Hid (Below wr.heap.size wr w5) := Lib.hid ((bdrew (Below.refl _ _)).trans hb5); have HS5 := Lib.hid (HSC.out w5 (HB5.out.mono HSZ2.out)); clear hb5))
      cases hm : mayB ⟨3, 0, [], [], 0, kk, c0⟩
      case false =>
        have HP : Hid (stepP ws = none) := Lib.hid (by rw [HPF.out, fin, hm]; rfl)
        have HROW5 : Hid (w5.heap[w.heap.size + 1]? = some (.cells (stL 3 0 [] [] 0 (.slice AA kk.length ac) c0).toArray 44 (0, 0))) := Lib.hid ((HB5.out.block (w.heap.size + 1) (by have := HSZ2.out; omega)).trans HROWk.out)
        have HGR : Hid (w5.heap[w.heap.size]? = some (.cells #[.int .i64 0, .int .i64 0, .string ⟨#[]⟩, .string ⟨#[]⟩, .int .i64 0, .slice none 0 0, .int .i64 0, .int .i64 0, .int .i64 0, .int .i64 0, .int .i64 0, .int .i64 0, .int .i64 0, .int .i64 0, .int .i64 0, .int .i64 0, .int .i64 0, .int .i64 0, .int .i64 0] 44 (0, 0))) := Lib.hid ((HB5.out.block w.heap.size (by have := HSZ2.out; omega)).trans HRES.out)
        have HBW : Hid (Below w.heap.size w w5) := Lib.hid (HB.out.trans (HB5.out.mono HB.out.size))
        have HSLT : Hid (w.heap.size + 1 < w5.drew.heap.size) := Lib.hid (by have := HB5.out.size; have := HSZ2.out; show w.heap.size + 1 < w5.heap.size; omega)
        have HRLT : Hid (w.heap.size < w5.drew.heap.size) := Lib.hid (by have := HB5.out.size; have := HSZ2.out; show w.heap.size < w5.heap.size; omega)
        have HKP : Hid (∀ W' X, Below w5.heap.size w5 W' → Kp (W'.setRow w.heap.size X) (.slice AA kk.length ac) kk) := Lib.hid (fun W' X hb => Kp.of_own (own_setRow (HKW.out W' (HB5.out.trans (hb.mono HB5.out.size))) (by omega)))
        have HEL : Hid (∃ L, stL 3 0 [] [] 0 (.slice AA kk.length ac) c0 = L) := Lib.hid ⟨_, rfl⟩
        obtain ⟨L, hL⟩ := HEL.out
        have HLL : Hid (stL 3 0 [] [] 0 (.slice AA kk.length ac) c0 = L) := Lib.hid hL
        have HIL : Hid ((Tryd.prog.info? 44).map (·.size) = some L.length) := Lib.hid (by rw [← hL]; exact info30)
        have HIL2 : Hid ((Tryd.prog.info? 44).map (·.size) = some L.toArray.size) := Lib.hid (by rw [← hL]; exact info30)
        have HOS : Hid ((#[.int .i64 0, .int .i64 0, .string ⟨#[]⟩, .string ⟨#[]⟩, .int .i64 0, .slice none 0 0, .int .i64 0, .int .i64 0, .int .i64 0, .int .i64 0, .int .i64 0, .int .i64 0, .int .i64 0, .int .i64 0, .int .i64 0, .int .i64 0, .int .i64 0, .int .i64 0, .int .i64 0] : Array Value).size = L.toArray.size) := Lib.hid (by rw [← hL]; rfl)
        have HOL : Hid (L.toArray.all (·.oneCell') = true) := Lib.hid (by rw [← hL]; exact stL_one _ _ _ _ _ _ _ _ _)
        have HRL : Hid (w5.rangeAt (w.heap.size + 1) 0 L) := Lib.hid (by rw [← hL]; exact range_of_row (HROW5.out))
        clear hL HEL
        have HCK : Hid (∀ w', Below w5.heap.size w5 w' → Calls Tryd.prog 28 #[.agg L.toArray] w' fun e w'' => e = .returned (.int .i64 1) ∧ Below w'.heap.size w' w'') := Lib.hid (fun w' hb => by
          have := check11 ⟨3, 0, [], [], 0, kk, c0⟩ AA ac w' (Kp.of_own (HKW.out w' (HB5.out.trans (hb.mono HB5.out.size)))) ⟨by simp, by simp, HFK.out⟩
          rw [hm, show (⟨3, 0, [], [], 0, kk, c0⟩ : St).A (.slice AA kk.length ac) = L.toArray from congrArg List.toArray HLL.out] at this
          exact this)
        clear hm
        go_wp2_with fail
        refine wp_region_held_drew (S := fun W => W.rangeAt (w.heap.size + 1) 0 L) (by kernel_rfl) HRL.out (fun hSx => ?_)
        refine wpAnyH_take (i := 0) (oi := ⟨some 84, _, _, _, _, none⟩) (v := .agg L.toArray) rfl (by kernel_rfl) (by kernel_rfl) (by kernel_rfl) (fun _ _ _ h => h) (yieldsIf_load_mid (by kernel_rfl) 44 (.tmp 4) rfl (w.heap.size + 1) 0 rfl L _ (fun W hW => hW) Tryd.underlying44 rfl HIL.out) hSx ?_
        try simp only [Act.put, List.setIfInBounds_toArray]
        refine wpAnyH_take (i := 1) (oi := ⟨some 85, _, _, _, _, none⟩) (v := .bool true) rfl (by kernel_rfl) (by kernel_rfl) (by kernel_rfl) (fun _ _ _ h => h) (Or.inl ⟨by kernel_rfl, ?_⟩) hSx ?_
        · intro wx hSx2; clear hSx; go_simp
        try simp only [Act.put, List.setIfInBounds_toArray]
        refine wpAnyH_take (i := 2) (oi := ⟨some 86, _, _, _, _, none⟩) (v := .bool true) rfl (by kernel_rfl) (by kernel_rfl) (by kernel_rfl) (fun _ _ _ h => h) (Or.inl ⟨by kernel_rfl, ?_⟩) hSx ?_
        · intro wx hSx2; clear hSx; go_simp
        try simp only [Act.put, List.setIfInBounds_toArray]
        refine wpAnyH_take (i := 3) (oi := ⟨some 87, _, _, _, _, some (2, true)⟩) (v := .agg L.toArray) rfl (by kernel_rfl) (by kernel_rfl) (by kernel_rfl) (fun _ _ _ h => h) (yieldsIf_load_mid (by kernel_rfl) 44 (.tmp 4) rfl (w.heap.size + 1) 0 rfl L _ (fun W hW => hW) Tryd.underlying44 rfl HIL.out) hSx ?_
        try simp only [Act.put, List.setIfInBounds_toArray]
        refine wpAnyH_ready (rs := [4]) (by kernel_rfl) (by simp) ?_
        refine AllReadyH.cons (o := ⟨some 88, _, _, _, _, some (2, true)⟩) rfl (fun KK hKK => ?_) AllReadyH.nil
        go_simp
        refine (HCK.out _ (bdrew (Below.refl _ _))).mono ?_
        rintro e wz ⟨rfl, hbz⟩
        have hSz : wz.rangeAt (w.heap.size + 1) 0 L := fun j u hj => (hbz.cell (p := ⟨(w.heap.size + 1), 0 + j, none⟩) HSLT.out).trans (hSx j u hj)
        refine hKK.out _ _ hSz (fun hSy => ?_)
        clear hKK hSx hSz
        have hSx := hSy
        clear hSy KK
        try simp only [Act.put, List.setIfInBounds_toArray, List.set_cons_zero, List.set_cons_succ]
        have HGZ : Hid (wz.heap[w.heap.size]? = some (.cells #[.int .i64 0, .int .i64 0, .string ⟨#[]⟩, .string ⟨#[]⟩, .int .i64 0, .slice none 0 0, .int .i64 0, .int .i64 0, .int .i64 0, .int .i64 0, .int .i64 0, .int .i64 0, .int .i64 0, .int .i64 0, .int .i64 0, .int .i64 0, .int .i64 0, .int .i64 0, .int .i64 0] 44 (0, 0))) := Lib.hid ((hbz.block w.heap.size HRLT.out).trans HGR.out)
        have HBZ : Hid (Below w.heap.size w wz) := Lib.hid ((below_drew HBW.out).trans (hbz.mono (below_drew HBW.out).size))
        refine wpAnyH_take (i := 5) (oi := ⟨some 89, _, _, _, _, some (2, true)⟩) (v := .bool false) rfl (by kernel_rfl) (by kernel_rfl) (by kernel_rfl) (fun _ _ _ h => h) (Or.inl ⟨by kernel_rfl, ?_⟩) hSx ?_
        · intro wx hSx2; clear hSx; go_simp
        try simp only [Act.put, List.setIfInBounds_toArray]
        refine wpAnyH_take (i := 6) (oi := ⟨some 90, _, _, _, _, none⟩) (v := .bool false) rfl (by kernel_rfl) (by kernel_rfl) (by kernel_rfl) (fun _ _ _ h => h) (Or.inl ⟨by kernel_rfl, ?_⟩) hSx ?_
        · intro wx hSx2; clear hSx; go_simp
        try simp only [Act.put, List.setIfInBounds_toArray]
        refine store_ready 7 (by kernel_rfl) (by kernel_rfl) (by kernel_rfl) 44 (.tmp 2) (.tmp 84) (by kernel_rfl) (by kernel_rfl) w.heap.size L.toArray (by kernel_rfl) (by kernel_rfl) 44 _ HGZ.out HIL2.out HOS.out HOL.out (fun j u hj => (setRow_cell_other (by omega)).trans (hSx j u hj)) (fun hSy => ?_)
        clear hSx
        have hSx := hSy
        clear hSy
        try simp only [Act.put, List.setIfInBounds_toArray]
        refine wpAnyH_take (i := 8) (oi := ⟨some 3, _, _, _, _, none⟩) (v := .bool false) rfl (by kernel_rfl) (by kernel_rfl) (by kernel_rfl) (fun _ _ _ h => h) (Or.inl ⟨by kernel_rfl, ?_⟩) hSx ?_
        · intro wx hSx2; clear hSx; go_simp
        try simp only [Act.put, List.setIfInBounds_toArray]
        refine wpAnyH_done (by kernel_rfl) ?_ _
        go_wp2
        refine bodyPost_ret (results_row2 rfl _ _ w.heap.size 44 L.toArray (0, 0) _ rfl (setRow_heap _ _ _ _ _ _ HGZ.out) Tryd.underlying44 rfl HIL2.out) rfl ?_
        exact ⟨⟨⟨3, 0, [], [], 0, kk, c0⟩, AA, ac, HKP.out _ _ ((bdrew (Below.refl _ _)).trans hbz), HFA.out, ⟨by simp, by simp, HFK.out⟩, .inr ⟨by rw [← HLL.out]; rfl, HP.out⟩⟩, below_setRow HBZ.out (Nat.le_refl _) _⟩
      case true =>
        have HP : Hid (stepP ws = some ⟨3, 0, [], [], 0, kk, c0⟩) := Lib.hid (by rw [HPF.out, fin, hm]; rfl)
        have HROW5 : Hid (w5.heap[w.heap.size + 1]? = some (.cells (stL 3 0 [] [] 0 (.slice AA kk.length ac) c0).toArray 44 (0, 0))) := Lib.hid ((HB5.out.block (w.heap.size + 1) (by have := HSZ2.out; omega)).trans HROWk.out)
        have HGR : Hid (w5.heap[w.heap.size]? = some (.cells #[.int .i64 0, .int .i64 0, .string ⟨#[]⟩, .string ⟨#[]⟩, .int .i64 0, .slice none 0 0, .int .i64 0, .int .i64 0, .int .i64 0, .int .i64 0, .int .i64 0, .int .i64 0, .int .i64 0, .int .i64 0, .int .i64 0, .int .i64 0, .int .i64 0, .int .i64 0, .int .i64 0] 44 (0, 0))) := Lib.hid ((HB5.out.block w.heap.size (by have := HSZ2.out; omega)).trans HRES.out)
        have HBW : Hid (Below w.heap.size w w5) := Lib.hid (HB.out.trans (HB5.out.mono HB.out.size))
        have HSLT : Hid (w.heap.size + 1 < w5.drew.heap.size) := Lib.hid (by have := HB5.out.size; have := HSZ2.out; show w.heap.size + 1 < w5.heap.size; omega)
        have HRLT : Hid (w.heap.size < w5.drew.heap.size) := Lib.hid (by have := HB5.out.size; have := HSZ2.out; show w.heap.size < w5.heap.size; omega)
        have HKP : Hid (∀ W' X, Below w5.heap.size w5 W' → Kp (W'.setRow w.heap.size X) (.slice AA kk.length ac) kk) := Lib.hid (fun W' X hb => Kp.of_own (own_setRow (HKW.out W' (HB5.out.trans (hb.mono HB5.out.size))) (by omega)))
        have HEL : Hid (∃ L, stL 3 0 [] [] 0 (.slice AA kk.length ac) c0 = L) := Lib.hid ⟨_, rfl⟩
        obtain ⟨L, hL⟩ := HEL.out
        have HLL : Hid (stL 3 0 [] [] 0 (.slice AA kk.length ac) c0 = L) := Lib.hid hL
        have HIL : Hid ((Tryd.prog.info? 44).map (·.size) = some L.length) := Lib.hid (by rw [← hL]; exact info30)
        have HIL2 : Hid ((Tryd.prog.info? 44).map (·.size) = some L.toArray.size) := Lib.hid (by rw [← hL]; exact info30)
        have HOS : Hid ((#[.int .i64 0, .int .i64 0, .string ⟨#[]⟩, .string ⟨#[]⟩, .int .i64 0, .slice none 0 0, .int .i64 0, .int .i64 0, .int .i64 0, .int .i64 0, .int .i64 0, .int .i64 0, .int .i64 0, .int .i64 0, .int .i64 0, .int .i64 0, .int .i64 0, .int .i64 0, .int .i64 0] : Array Value).size = L.toArray.size) := Lib.hid (by rw [← hL]; rfl)
        have HOL : Hid (L.toArray.all (·.oneCell') = true) := Lib.hid (by rw [← hL]; exact stL_one _ _ _ _ _ _ _ _ _)
        have HRL : Hid (w5.rangeAt (w.heap.size + 1) 0 L) := Lib.hid (by rw [← hL]; exact range_of_row (HROW5.out))
        clear hL HEL
        have HCK : Hid (∀ w', Below w5.heap.size w5 w' → Calls Tryd.prog 28 #[.agg L.toArray] w' fun e w'' => e = .returned (.int .i64 0) ∧ Below w'.heap.size w' w'') := Lib.hid (fun w' hb => by
          have := check11 ⟨3, 0, [], [], 0, kk, c0⟩ AA ac w' (Kp.of_own (HKW.out w' (HB5.out.trans (hb.mono HB5.out.size)))) ⟨by simp, by simp, HFK.out⟩
          rw [hm, show (⟨3, 0, [], [], 0, kk, c0⟩ : St).A (.slice AA kk.length ac) = L.toArray from congrArg List.toArray HLL.out] at this
          exact this)
        clear hm
        go_wp2_with fail
        refine wp_region_held_drew (S := fun W => W.rangeAt (w.heap.size + 1) 0 L) (by kernel_rfl) HRL.out (fun hSx => ?_)
        refine wpAnyH_take (i := 0) (oi := ⟨some 84, _, _, _, _, none⟩) (v := .agg L.toArray) rfl (by kernel_rfl) (by kernel_rfl) (by kernel_rfl) (fun _ _ _ h => h) (yieldsIf_load_mid (by kernel_rfl) 44 (.tmp 4) rfl (w.heap.size + 1) 0 rfl L _ (fun W hW => hW) Tryd.underlying44 rfl HIL.out) hSx ?_
        try simp only [Act.put, List.setIfInBounds_toArray]
        refine wpAnyH_take (i := 1) (oi := ⟨some 85, _, _, _, _, none⟩) (v := .bool true) rfl (by kernel_rfl) (by kernel_rfl) (by kernel_rfl) (fun _ _ _ h => h) (Or.inl ⟨by kernel_rfl, ?_⟩) hSx ?_
        · intro wx hSx2; clear hSx; go_simp
        try simp only [Act.put, List.setIfInBounds_toArray]
        refine wpAnyH_take (i := 2) (oi := ⟨some 86, _, _, _, _, none⟩) (v := .bool true) rfl (by kernel_rfl) (by kernel_rfl) (by kernel_rfl) (fun _ _ _ h => h) (Or.inl ⟨by kernel_rfl, ?_⟩) hSx ?_
        · intro wx hSx2; clear hSx; go_simp
        try simp only [Act.put, List.setIfInBounds_toArray]
        refine wpAnyH_take (i := 3) (oi := ⟨some 87, _, _, _, _, some (2, true)⟩) (v := .agg L.toArray) rfl (by kernel_rfl) (by kernel_rfl) (by kernel_rfl) (fun _ _ _ h => h) (yieldsIf_load_mid (by kernel_rfl) 44 (.tmp 4) rfl (w.heap.size + 1) 0 rfl L _ (fun W hW => hW) Tryd.underlying44 rfl HIL.out) hSx ?_
        try simp only [Act.put, List.setIfInBounds_toArray]
        refine wpAnyH_ready (rs := [4]) (by kernel_rfl) (by simp) ?_
        refine AllReadyH.cons (o := ⟨some 88, _, _, _, _, some (2, true)⟩) rfl (fun KK hKK => ?_) AllReadyH.nil
        go_simp
        refine (HCK.out _ (bdrew (Below.refl _ _))).mono ?_
        rintro e wz ⟨rfl, hbz⟩
        have hSz : wz.rangeAt (w.heap.size + 1) 0 L := fun j u hj => (hbz.cell (p := ⟨(w.heap.size + 1), 0 + j, none⟩) HSLT.out).trans (hSx j u hj)
        refine hKK.out _ _ hSz (fun hSy => ?_)
        clear hKK hSx hSz
        have hSx := hSy
        clear hSy KK
        try simp only [Act.put, List.setIfInBounds_toArray, List.set_cons_zero, List.set_cons_succ]
        have HGZ : Hid (wz.heap[w.heap.size]? = some (.cells #[.int .i64 0, .int .i64 0, .string ⟨#[]⟩, .string ⟨#[]⟩, .int .i64 0, .slice none 0 0, .int .i64 0, .int .i64 0, .int .i64 0, .int .i64 0, .int .i64 0, .int .i64 0, .int .i64 0, .int .i64 0, .int .i64 0, .int .i64 0, .int .i64 0, .int .i64 0, .int .i64 0] 44 (0, 0))) := Lib.hid ((hbz.block w.heap.size HRLT.out).trans HGR.out)
        have HBZ : Hid (Below w.heap.size w wz) := Lib.hid ((below_drew HBW.out).trans (hbz.mono (below_drew HBW.out).size))
        refine wpAnyH_take (i := 5) (oi := ⟨some 89, _, _, _, _, some (2, true)⟩) (v := .bool true) rfl (by kernel_rfl) (by kernel_rfl) (by kernel_rfl) (fun _ _ _ h => h) (Or.inl ⟨by kernel_rfl, ?_⟩) hSx ?_
        · intro wx hSx2; clear hSx; go_simp
        try simp only [Act.put, List.setIfInBounds_toArray]
        refine wpAnyH_take (i := 6) (oi := ⟨some 90, _, _, _, _, none⟩) (v := .bool true) rfl (by kernel_rfl) (by kernel_rfl) (by kernel_rfl) (fun _ _ _ h => h) (Or.inl ⟨by kernel_rfl, ?_⟩) hSx ?_
        · intro wx hSx2; clear hSx; go_simp
        try simp only [Act.put, List.setIfInBounds_toArray]
        refine store_ready 7 (by kernel_rfl) (by kernel_rfl) (by kernel_rfl) 44 (.tmp 2) (.tmp 84) (by kernel_rfl) (by kernel_rfl) w.heap.size L.toArray (by kernel_rfl) (by kernel_rfl) 44 _ HGZ.out HIL2.out HOS.out HOL.out (fun j u hj => (setRow_cell_other (by omega)).trans (hSx j u hj)) (fun hSy => ?_)
        clear hSx
        have hSx := hSy
        clear hSy
        try simp only [Act.put, List.setIfInBounds_toArray]
        refine wpAnyH_take (i := 8) (oi := ⟨some 3, _, _, _, _, none⟩) (v := .bool true) rfl (by kernel_rfl) (by kernel_rfl) (by kernel_rfl) (fun _ _ _ h => h) (Or.inl ⟨by kernel_rfl, ?_⟩) hSx ?_
        · intro wx hSx2; clear hSx; go_simp
        try simp only [Act.put, List.setIfInBounds_toArray]
        refine wpAnyH_done (by kernel_rfl) ?_ _
        go_wp2
        refine bodyPost_ret (results_row2 rfl _ _ w.heap.size 44 L.toArray (0, 0) _ rfl (setRow_heap _ _ _ _ _ _ HGZ.out) Tryd.underlying44 rfl HIL2.out) rfl ?_
        exact ⟨⟨⟨3, 0, [], [], 0, kk, c0⟩, AA, ac, HKP.out _ _ ((bdrew (Below.refl _ _)).trans hbz), HFA.out, ⟨by simp, by simp, HFK.out⟩, .inl ⟨by rw [← HLL.out]; rfl, HP.out⟩⟩, below_setRow HBZ.out (Nat.le_refl _) _⟩
  have t45 : ((str x1).toList == [45]) = false := by rw [str_toList]; simpa using h45
  have HKO : Hid (keepOf x1 = x1.map fun c => decide (c = 49)) := Lib.hid (if_neg h45)
  have hsz := str_size x1
  clear h45
  go_enter Tryd.func43, Tryd.ntmps43
  go_wp2_with fail
  have HROW0 : Hid (((w.alloc (.cells #[.int .i64 0, .int .i64 0, .string ⟨#[]⟩, .string ⟨#[]⟩, .int .i64 0, .slice none 0 0, .int .i64 0, .int .i64 0, .int .i64 0, .int .i64 0, .int .i64 0, .int .i64 0, .int .i64 0, .int .i64 0, .int .i64 0, .int .i64 0, .int .i64 0, .int .i64 0, .int .i64 0] 44)).alloc (.cells #[.int .i64 3, .int .i64 0, .string ⟨#[]⟩, .string ⟨#[]⟩, .int .i64 0, .slice none 0 0, .int .i64 0, .int .i64 0, .int .i64 0, .int .i64 0, .int .i64 0, .int .i64 0, .int .i64 0, .int .i64 0, .int .i64 0, .int .i64 0, .int .i64 0, .int .i64 0, .int .i64 0] 44)).heap[w.heap.size + 1]? = some (.cells (stL 3 0 [] [] 0 (.slice none 0 0) c0).toArray 44 (0, 0))) := Lib.hid (by have := heap_alloc_new (w.alloc (.cells #[.int .i64 0, .int .i64 0, .string ⟨#[]⟩, .string ⟨#[]⟩, .int .i64 0, .slice none 0 0, .int .i64 0, .int .i64 0, .int .i64 0, .int .i64 0, .int .i64 0, .int .i64 0, .int .i64 0, .int .i64 0, .int .i64 0, .int .i64 0, .int .i64 0, .int .i64 0, .int .i64 0] 44)) (.cells (stL 3 0 [] [] 0 (.slice none 0 0) c0).toArray 44); rwa [World.size_alloc] at this)
  have HGR0 : Hid (((w.alloc (.cells #[.int .i64 0, .int .i64 0, .string ⟨#[]⟩, .string ⟨#[]⟩, .int .i64 0, .slice none 0 0, .int .i64 0, .int .i64 0, .int .i64 0, .int .i64 0, .int .i64 0, .int .i64 0, .int .i64 0, .int .i64 0, .int .i64 0, .int .i64 0, .int .i64 0, .int .i64 0, .int .i64 0] 44)).alloc (.cells #[.int .i64 3, .int .i64 0, .string ⟨#[]⟩, .string ⟨#[]⟩, .int .i64 0, .slice none 0 0, .int .i64 0, .int .i64 0, .int .i64 0, .int .i64 0, .int .i64 0, .int .i64 0, .int .i64 0, .int .i64 0, .int .i64 0, .int .i64 0, .int .i64 0, .int .i64 0, .int .i64 0] 44)).heap[w.heap.size]? = some (.cells #[.int .i64 0, .int .i64 0, .string ⟨#[]⟩, .string ⟨#[]⟩, .int .i64 0, .slice none 0 0, .int .i64 0, .int .i64 0, .int .i64 0, .int .i64 0, .int .i64 0, .int .i64 0, .int .i64 0, .int .i64 0, .int .i64 0, .int .i64 0, .int .i64 0, .int .i64 0, .int .i64 0] 44 (0, 0))) := Lib.hid ((Below.heap_alloc _ _ _ (by simp)).trans (heap_alloc_new w _))
  have HSZ0 : Hid (((w.alloc (.cells #[.int .i64 0, .int .i64 0, .string ⟨#[]⟩, .string ⟨#[]⟩, .int .i64 0, .slice none 0 0, .int .i64 0, .int .i64 0, .int .i64 0, .int .i64 0, .int .i64 0, .int .i64 0, .int .i64 0, .int .i64 0, .int .i64 0, .int .i64 0, .int .i64 0, .int .i64 0, .int .i64 0] 44)).alloc (.cells #[.int .i64 3, .int .i64 0, .string ⟨#[]⟩, .string ⟨#[]⟩, .int .i64 0, .slice none 0 0, .int .i64 0, .int .i64 0, .int .i64 0, .int .i64 0, .int .i64 0, .int .i64 0, .int .i64 0, .int .i64 0, .int .i64 0, .int .i64 0, .int .i64 0, .int .i64 0, .int .i64 0] 44)).heap.size = w.heap.size + 2) := Lib.hid (by simp)
  clear hc3 hc2
  generalize hW3 : ((w.alloc (.cells #[.int .i64 0, .int .i64 0, .string ⟨#[]⟩, .string ⟨#[]⟩, .int .i64 0, .slice none 0 0, .int .i64 0, .int .i64 0, .int .i64 0, .int .i64 0, .int .i64 0, .int .i64 0, .int .i64 0, .int .i64 0, .int .i64 0, .int .i64 0, .int .i64 0, .int .i64 0, .int .i64 0] 44)).alloc (.cells #[.int .i64 3, .int .i64 0, .string ⟨#[]⟩, .string ⟨#[]⟩, .int .i64 0, .slice none 0 0, .int .i64 0, .int .i64 0, .int .i64 0, .int .i64 0, .int .i64 0, .int .i64 0, .int .i64 0, .int .i64 0, .int .i64 0, .int .i64 0, .int .i64 0, .int .i64 0, .int .i64 0] 44)) = w3 at *
  clear hW3
  go_loopg [47] x1.length (fun gk i wr => ∃ (k : Nat) (V : Value), k ≤ x1.length ∧ gk = x1.length - k ∧ i = .int .i64 k ∧ wr.heap[w.heap.size + 1]? = some (.cells (stL 3 0 [] [] 0 V c0).toArray 44 (0, 0)) ∧ wr.heap[w.heap.size]? = some (.cells #[.int .i64 0, .int .i64 0, .string ⟨#[]⟩, .string ⟨#[]⟩, .int .i64 0, .slice none 0 0, .int .i64 0, .int .i64 0, .int .i64 0, .int .i64 0, .int .i64 0, .int .i64 0, .int .i64 0, .int .i64 0, .int .i64 0, .int .i64 0, .int .i64 0, .int .i64 0, .int .i64 0] 44 (0, 0)) ∧ wr.ownsRow (w.heap.size + 2) 4 1 V k (boolsV ((keepOf x1).take k)) ∧ Below w.heap.size w wr ∧ w.heap.size + 2 ≤ wr.heap.size)
  case atStart => exact ⟨0, .slice none 0 0, Nat.zero_le _, rfl, rfl, HROW0.out, HGR0.out, World.ownsRow_nil _ _ _ _, HB3.out, Nat.le_of_eq HSZ0.out.symm⟩
  case round =>
    obtain ⟨k, V, hk, hgk, rfl, hrow, hres, hr, hb, hsz2⟩ := hrel
    obtain ⟨AA, ac, hv⟩ := own_slice hr
    subst hv
    have HK := Lib.hid hgk
    have HR := Lib.hid hr
    have HB := Lib.hid hb
    have HROW := Lib.hid hrow
    have HRES := Lib.hid hres
    have HSZ2 := Lib.hid hsz2
    have hc1 := HCE1.out wr hb
    have hc5 : wr.cell? ⟨w.heap.size + 1, 5, none⟩ = some (.slice AA k ac) := cell_of_row wr _ 5 _ 44 _ hrow
    have hf5 : wr.frozen? ⟨w.heap.size + 1, 5, none⟩ = false := frozen_of_row wr _ 5 _ 44 hrow
    clear hgk hr hb hrow hres hsz2
    by_cases hkl : k < x1.length
    · have h1 : (k : Int) < (x1.length : Int) := by omega
      have hg := str_get x1 k hkl (by rw [hsz]; exact hkl)
      have HT : Hid ((keepOf x1).take (k + 1) = (keepOf x1).take k ++ [decide ((x1[k]'hkl) = 49)]) := Lib.hid (by rw [HKO.out, List.take_succ_eq_append_getElem (by simpa using hkl)]; simp)
      obtain ⟨ch, hch⟩ : ∃ ch, x1[k]'hkl = ch := ⟨_, rfl⟩
      rw [hch] at hg HT
      clear hch
      have hcb : ((ch.toNat : Int) == 49) = decide (ch = 49) := by
        rw [Bool.eq_iff_iff, beq_iff_eq, decide_eq_true_eq]
        constructor
        · intro h; apply UInt8.toNat.inj; show ch.toNat = 49; omega
        · rintro rfl; rfl
      generalize decide (ch = 49) = tb at *
      have HR1 : Hid ((wr.drew.alloc (.cells #[.bool tb] 4)).ownsRow (w.heap.size + 2) 4 1 (.slice AA k ac) k (boolsV ((keepOf x1).take k))) := Lib.hid (World.ownsRow.alloc (w := wr.drew) HR.out _)
      obtain ⟨i0, hi, hz0, hz1, hz2⟩ := info_parts info4
      obtain ⟨v', w2, hrun, hown', hgrow, _, _⟩ := run_append_own_at (P := Tryd.prog) (wr.drew.alloc (.cells #[.bool tb] 4)) (w.heap.size + 2) 42 42 4 i0 _ 1 1 Tryd.underlying42 hi hz0 hz1 hz2 rfl (by decide) _ _ _ HR1.out ⟨wr.heap.size, 0, none⟩ 1 1 [.bool tb] rfl (new1 _ _ _ _ rfl) (by simp [Value.oneCell']) (by unfold maxLen; have := HXL.out; omega) (by have := HXL.out; omega) (Nat.le_trans HSZ2.out (by simp))
      clear hi hz0 hz1 hz2
      obtain ⟨A3, ac3, hv3⟩ := own_slice hown'
      subst hv3
      have hc5b : Hid ((wr.drew.alloc (.cells #[.bool tb] 4)).cell? ⟨w.heap.size + 1, 5, none⟩ = some (.slice AA k ac)) := Lib.hid (by rw [World.cell?_alloc_lt _ _ _ (by show w.heap.size + 1 < wr.heap.size; have := HSZ2.out; omega)]; exact hc5)
      have hne2 : ∀ j, (Value.slice AA k ac).ownBlock = some j → w.heap.size + 2 ≤ j := fun j e => (HR1.out.lt j e).1
      have HROW2 : Hid (w2.heap[w.heap.size + 1]? = some (.cells (stL 3 0 [] [] 0 (.slice AA k ac) c0).toArray 44 (0, 0))) := Lib.hid ((hgrow.block (w.heap.size + 1) (by have := HSZ2.out; simp; omega) (fun e => by have := hne2 _ e.symm; omega)).trans ((Below.heap_alloc wr.drew _ _ (by show w.heap.size + 1 < wr.heap.size; have := HSZ2.out; omega)).trans HROW.out))
      have HRES2 : Hid (w2.heap[w.heap.size]? = some (.cells #[.int .i64 0, .int .i64 0, .string ⟨#[]⟩, .string ⟨#[]⟩, .int .i64 0, .slice none 0 0, .int .i64 0, .int .i64 0, .int .i64 0, .int .i64 0, .int .i64 0, .int .i64 0, .int .i64 0, .int .i64 0, .int .i64 0, .int .i64 0, .int .i64 0, .int .i64 0, .int .i64 0] 44 (0, 0))) := Lib.hid ((hgrow.block w.heap.size (by have := HSZ2.out; simp; omega) (fun e => by have := hne2 _ e.symm; omega)).trans ((Below.heap_alloc wr.drew _ _ (by show w.heap.size < wr.heap.size; have := HSZ2.out; omega)).trans HRES.out))
      have HC5 : Hid (w2.cell? ⟨w.heap.size + 1, 5, none⟩ = some (.slice AA k ac)) := Lib.hid (cell_of_row w2 _ 5 _ 44 _ HROW2.out)
      have HF5 : Hid (w2.frozen? ⟨w.heap.size + 1, 5, none⟩ = false) := Lib.hid (frozen_of_row w2 _ 5 _ 44 HROW2.out)
      have HO := Lib.hid hown'
      have HBN : Hid (Below w.heap.size w w2) := Lib.hid (((below_drew HB.out).alloc (by have := HSZ2.out; show w.heap.size ≤ wr.heap.size; omega) _).grown hgrow (by have := HSZ2.out; simp; omega) (fun j e => by have := hne2 j e; omega))
      have HSN : Hid (w.heap.size + 2 ≤ w2.heap.size) := Lib.hid (Nat.le_trans HSZ2.out (Nat.le_trans (by simp) hgrow.size))
      clear hown' hgrow hne2
      go_wp2_with fail
      refine wp_region_any (by kernel_rfl) ?_
      change wpAny _ _ _ _ _ _ _ (World.drew _)
      refine wpAny_take (i := 0) (oi := ⟨some 50, _, _, _, _, none⟩) (v := .pointer (some ⟨(w.heap.size + 1), 5, none⟩)) rfl (by kernel_rfl) (by kernel_rfl) (by kernel_rfl) (fun _ _ _ h => h) (Or.inl ⟨by kernel_rfl, ?_⟩) ?_
      · intro wx; go_simp
      try simp only [Act.put, List.setIfInBounds_toArray]
      refine wpAny_take (i := 2) (oi := ⟨some 52, _, _, _, _, none⟩) (v := .slice (some ⟨b, o, none⟩) ws.length cp) rfl (by kernel_rfl) (by kernel_rfl) (by kernel_rfl) (fun _ _ _ h => h) (Or.inl ⟨by kernel_rfl, ?_⟩) ?_
      · intro wx; go_simp
      try simp only [Act.put, List.setIfInBounds_toArray]
      refine wpAny_take (i := 3) (oi := ⟨some 53, _, _, _, _, none⟩) (v := .pointer (some ⟨b, o + 1, none⟩)) rfl (by kernel_rfl) (by kernel_rfl) (by kernel_rfl) (fun _ _ _ h => h) (Or.inl ⟨by kernel_rfl, ?_⟩) ?_
      · intro wx; go_simp
      try simp only [Act.put, List.setIfInBounds_toArray]
      refine wpAny_take (i := 5) (oi := ⟨some 55, _, _, _, _, none⟩) (v := .int .i64 k) rfl (by kernel_rfl) (by kernel_rfl) (by kernel_rfl) (fun _ _ _ h => h) (Or.inl ⟨by kernel_rfl, ?_⟩) ?_
      · intro wx; go_simp
      try simp only [Act.put, List.setIfInBounds_toArray]
      refine any2 1 4 (by kernel_rfl) ?_ ?_
      · skip
        refine op_load1 1 (by kernel_rfl) (by kernel_rfl) 42 (.tmp 50) (by kernel_rfl) (some 51) (by kernel_rfl) ⟨(w.heap.size + 1), 5, none⟩ (.slice AA k ac) (by kernel_rfl) (load26 _ _ _ _ hc5) ?_
        try simp only [Act.put, List.setIfInBounds_toArray]
        refine any1 4 (by kernel_rfl) ?_
        refine op_load1 4 (by kernel_rfl) (by kernel_rfl) 9 (.tmp 53) (by kernel_rfl) (some 54) (by kernel_rfl) ⟨b, o + 1, none⟩ (.string (str x1)) (by kernel_rfl) (load9 _ _ _ _ hc1) ?_
        try simp only [Act.put, List.setIfInBounds_toArray]
        refine wpAny_take (i := 6) (oi := ⟨some 56, _, _, _, _, none⟩) (v := .int .u8 ch.toNat) rfl (by kernel_rfl) (by kernel_rfl) (by kernel_rfl) (fun _ _ _ h => h) (Or.inl ⟨by kernel_rfl, ?_⟩) ?_
        · intro wx; go_simp
        try simp only [Act.put, List.setIfInBounds_toArray]
        refine wpAny_take (i := 7) (oi := ⟨some 57, _, _, _, _, none⟩) (v := .bool tb) rfl (by kernel_rfl) (by kernel_rfl) (by kernel_rfl) (fun _ _ _ h => h) (Or.inl ⟨by kernel_rfl, ?_⟩) ?_
        · intro wx; go_simp
        try simp only [Act.put, List.setIfInBounds_toArray]
        refine any1 8 (by kernel_rfl) ?_
        refine op_build1 8 (by kernel_rfl) (by kernel_rfl) (.buildSlice 42 1 #[(0, .tmp 57)]) (by kernel_rfl) 42 (by kernel_rfl) (some 58) (by kernel_rfl) (.slice (some ⟨wr.heap.size, 0, none⟩) 1 1) (w' := wr.drew.alloc (.cells #[.bool tb] 4)) ?_ ?_
        · go_simp
        try simp only [Act.put, List.setIfInBounds_toArray]
        refine any1 9 (by kernel_rfl) ?_
        refine op_append1 9 (by kernel_rfl) (by kernel_rfl) (.tmp 51) (.tmp 58) 42 42 (by kernel_rfl) (by kernel_rfl) (some 59) (by kernel_rfl) (v := .slice AA k ac) (y := .slice (some ⟨wr.heap.size, 0, none⟩) 1 1) (by kernel_rfl) (by kernel_rfl) hrun ?_
        try simp only [Act.put, List.setIfInBounds_toArray]
        refine wpAny_take (i := 10) (oi := ⟨some 60, _, _, _, _, none⟩) (v := .pointer (some ⟨(w.heap.size + 1), 5, none⟩)) rfl (by kernel_rfl) (by kernel_rfl) (by kernel_rfl) (fun _ _ _ h => h) (Or.inl ⟨by kernel_rfl, ?_⟩) ?_
        · intro wx; go_simp
        try simp only [Act.put, List.setIfInBounds_toArray]
        refine any1 11 (by kernel_rfl) ?_
        refine op_store1 11 (by kernel_rfl) (by kernel_rfl) 42 (.tmp 60) (.tmp 59) (by kernel_rfl) (by kernel_rfl) ⟨(w.heap.size + 1), 5, none⟩ (.slice A3 (k + 1) ac3) (by kernel_rfl) (by kernel_rfl) (store26 _ _ _ _ _ _ _ HC5.out HF5.out) ?_
        refine wpAny_done (by kernel_rfl) ?_ _
        go_wp2
        go_roundg (x1.length - (k + 1))
        case measure => rw [HK.out]; omega
        case rel =>
          refine ⟨k + 1, .slice A3 (k + 1) ac3, by omega, rfl, by go_num, ?_, ?_, ?_, HBN.out.setCell (by simp) _, Nat.le_trans HSN.out (by simp)⟩
          · rw [Go.heap_setCell_same _ _ _ _ _ _ HROW2.out, set_keep]
          · rw [heap_setCell_other _ _ _ _ (by simp)]; exact HRES2.out
          · rw [HT.out, boolsV_append]; exact ownsRow_setCell_below HO.out (by simp) _
      · skip
        refine op_load1 4 (by kernel_rfl) (by kernel_rfl) 9 (.tmp 53) (by kernel_rfl) (some 54) (by kernel_rfl) ⟨b, o + 1, none⟩ (.string (str x1)) (by kernel_rfl) (load9 _ _ _ _ hc1) ?_
        try simp only [Act.put, List.setIfInBounds_toArray]
        refine wpAny_take (i := 6) (oi := ⟨some 56, _, _, _, _, none⟩) (v := .int .u8 ch.toNat) rfl (by kernel_rfl) (by kernel_rfl) (by kernel_rfl) (fun _ _ _ h => h) (Or.inl ⟨by kernel_rfl, ?_⟩) ?_
        · intro wx; go_simp
        try simp only [Act.put, List.setIfInBounds_toArray]
        refine wpAny_take (i := 7) (oi := ⟨some 57, _, _, _, _, none⟩) (v := .bool tb) rfl (by kernel_rfl) (by kernel_rfl) (by kernel_rfl) (fun _ _ _ h => h) (Or.inl ⟨by kernel_rfl, ?_⟩) ?_
        · intro wx; go_simp
        try simp only [Act.put, List.setIfInBounds_toArray]
        refine any2 1 8 (by kernel_rfl) ?_ ?_
        · skip
          refine op_load1 1 (by kernel_rfl) (by kernel_rfl) 42 (.tmp 50) (by kernel_rfl) (some 51) (by kernel_rfl) ⟨(w.heap.size + 1), 5, none⟩ (.slice AA k ac) (by kernel_rfl) (load26 _ _ _ _ hc5) ?_
          try simp only [Act.put, List.setIfInBounds_toArray]
          refine any1 8 (by kernel_rfl) ?_
          refine op_build1 8 (by kernel_rfl) (by kernel_rfl) (.buildSlice 42 1 #[(0, .tmp 57)]) (by kernel_rfl) 42 (by kernel_rfl) (some 58) (by kernel_rfl) (.slice (some ⟨wr.heap.size, 0, none⟩) 1 1) (w' := wr.drew.alloc (.cells #[.bool tb] 4)) ?_ ?_
          · go_simp
          try simp only [Act.put, List.setIfInBounds_toArray]
          refine any1 9 (by kernel_rfl) ?_
          refine op_append1 9 (by kernel_rfl) (by kernel_rfl) (.tmp 51) (.tmp 58) 42 42 (by kernel_rfl) (by kernel_rfl) (some 59) (by kernel_rfl) (v := .slice AA k ac) (y := .slice (some ⟨wr.heap.size, 0, none⟩) 1 1) (by kernel_rfl) (by kernel_rfl) hrun ?_
          try simp only [Act.put, List.setIfInBounds_toArray]
          refine wpAny_take (i := 10) (oi := ⟨some 60, _, _, _, _, none⟩) (v := .pointer (some ⟨(w.heap.size + 1), 5, none⟩)) rfl (by kernel_rfl) (by kernel_rfl) (by kernel_rfl) (fun _ _ _ h => h) (Or.inl ⟨by kernel_rfl, ?_⟩) ?_
          · intro wx; go_simp
          try simp only [Act.put, List.setIfInBounds_toArray]
          refine any1 11 (by kernel_rfl) ?_
          refine op_store1 11 (by kernel_rfl) (by kernel_rfl) 42 (.tmp 60) (.tmp 59) (by kernel_rfl) (by kernel_rfl) ⟨(w.heap.size + 1), 5, none⟩ (.slice A3 (k + 1) ac3) (by kernel_rfl) (by kernel_rfl) (store26 _ _ _ _ _ _ _ HC5.out HF5.out) ?_
          refine wpAny_done (by kernel_rfl) ?_ _
          go_wp2
          go_roundg (x1.length - (k + 1))
          case measure => rw [HK.out]; omega
          case rel =>
            refine ⟨k + 1, .slice A3 (k + 1) ac3, by omega, rfl, by go_num, ?_, ?_, ?_, HBN.out.setCell (by simp) _, Nat.le_trans HSN.out (by simp)⟩
            · rw [Go.heap_setCell_same _ _ _ _ _ _ HROW2.out, set_keep]
            · rw [heap_setCell_other _ _ _ _ (by simp)]; exact HRES2.out
            · rw [HT.out, boolsV_append]; exact ownsRow_setCell_below HO.out (by simp) _
        · skip
          refine op_build1 8 (by kernel_rfl) (by kernel_rfl) (.buildSlice 42 1 #[(0, .tmp 57)]) (by kernel_rfl) 42 (by kernel_rfl) (some 58) (by kernel_rfl) (.slice (some ⟨wr.heap.size, 0, none⟩) 1 1) (w' := wr.drew.alloc (.cells #[.bool tb] 4)) ?_ ?_
          · go_simp
          try simp only [Act.put, List.setIfInBounds_toArray]
          refine any1 1 (by kernel_rfl) ?_
          refine op_load1 1 (by kernel_rfl) (by kernel_rfl) 42 (.tmp 50) (by kernel_rfl) (some 51) (by kernel_rfl) ⟨(w.heap.size + 1), 5, none⟩ (.slice AA k ac) (by kernel_rfl) (load26 _ _ _ _ hc5b.out) ?_
          try simp only [Act.put, List.setIfInBounds_toArray]
          refine any1 9 (by kernel_rfl) ?_
          refine op_append1 9 (by kernel_rfl) (by kernel_rfl) (.tmp 51) (.tmp 58) 42 42 (by kernel_rfl) (by kernel_rfl) (some 59) (by kernel_rfl) (v := .slice AA k ac) (y := .slice (some ⟨wr.heap.size, 0, none⟩) 1 1) (by kernel_rfl) (by kernel_rfl) hrun ?_
          try simp only [Act.put, List.setIfInBounds_toArray]
          refine wpAny_take (i := 10) (oi := ⟨some 60, _, _, _, _, none⟩) (v := .pointer (some ⟨(w.heap.size + 1), 5, none⟩)) rfl (by kernel_rfl) (by kernel_rfl) (by kernel_rfl) (fun _ _ _ h => h) (Or.inl ⟨by kernel_rfl, ?_⟩) ?_
          · intro wx; go_simp
          try simp only [Act.put, List.setIfInBounds_toArray]
          refine any1 11 (by kernel_rfl) ?_
          refine op_store1 11 (by kernel_rfl) (by kernel_rfl) 42 (.tmp 60) (.tmp 59) (by kernel_rfl) (by kernel_rfl) ⟨(w.heap.size + 1), 5, none⟩ (.slice A3 (k + 1) ac3) (by kernel_rfl) (by kernel_rfl) (store26 _ _ _ _ _ _ _ HC5.out HF5.out) ?_
          refine wpAny_done (by kernel_rfl) ?_ _
          go_wp2
          go_roundg (x1.length - (k + 1))
          case measure => rw [HK.out]; omega
          case rel =>
            refine ⟨k + 1, .slice A3 (k + 1) ac3, by omega, rfl, by go_num, ?_, ?_, ?_, HBN.out.setCell (by simp) _, Nat.le_trans HSN.out (by simp)⟩
            · rw [Go.heap_setCell_same _ _ _ _ _ _ HROW2.out, set_keep]
            · rw [heap_setCell_other _ _ _ _ (by simp)]; exact HRES2.out
            · rw [HT.out, boolsV_append]; exact ownsRow_setCell_below HO.out (by simp) _
    · obtain rfl : k = x1.length := by omega
      have hkl2 : (keepOf x1).length = x1.length := by rw [HKO.out]; simp
      have HOWN : Hid (wr.ownsRow (w.heap.size + 2) 4 1 (.slice AA (keepOf x1).length ac) (keepOf x1).length (boolsV (keepOf x1))) := Lib.hid (by have := HR.out; rwa [List.take_of_length_le (by omega), ← hkl2] at this)
      have HROWk : Hid (wr.heap[w.heap.size + 1]? = some (.cells (stL 3 0 [] [] 0 (.slice AA (keepOf x1).length ac) c0).toArray 44 (0, 0))) := Lib.hid (by rw [hkl2]; exact HROW.out)
      have HFK : Hid ((keepOf x1).length ≤ 100000) := Lib.hid (by have := HXL.out; omega)
      have hx1l : ¬ ((x1.length : Int) < (x1.length : Int)) := by omega
      clear hc1 hc5 hf5 hkl2 HR HROW hkl
      have hc1 := HCE1.out _ HB.out
      have hc5 : wr.cell? ⟨w.heap.size + 1, 5, none⟩ = some (.slice AA (keepOf x1).length ac) := cell_of_row wr _ 5 _ 44 _ HROWk.out
      have HSC : Hid (∀ W, Below (w.heap.size + 2) wr W → W.cell? ⟨w.heap.size + 1, 5, none⟩ = some (.slice AA (keepOf x1).length ac) ∧ W.cell? ⟨b, o + 1, none⟩ = some (.string (str x1))) := Lib.hid (fun W hb => ⟨cell_of_row W _ 5 _ 44 _ ((hb.block (w.heap.size + 1) (by omega)).trans HROWk.out), HCE1.out W (HB.out.trans (hb.mono (by omega)))⟩)
      have HTR := Lib.hid (truths31 _ (keepOf x1) (by have := HFK.out; omega) wr.drew (Kp.of_own HOWN.out.drew))
      have htb : ((str (tru (keepOf x1))).toList == (str x1).toList) = decide (tru (keepOf x1) = x1) := str_beq _ _
      have HKW : Hid (∀ W', Below wr.heap.size wr W' → W'.ownsRow (w.heap.size + 2) 4 1 (.slice AA (keepOf x1).length ac) (keepOf x1).length (boolsV (keepOf x1))) := Lib.hid (fun W' hb => own_below HOWN.out hb)
      have HFA : Hid (∀ a : Addr, AA = some a → w.heap.size ≤ a.block) := Lib.hid (fun a ha => by have := own_lo HOWN.out a ha; omega)
      have HTQ := Lib.hid (rfl : tru (keepOf x1) = tru (keepOf x1))
      generalize htr : tru (keepOf x1) = tk at *
      generalize hkk : keepOf x1 = kk at *
      clear htr hkk HTQ HKO
      have h0S := HSC.out wr.drew (bdrew (Below.refl _ _))
      have H0S := Lib.hid h0S
      clear h0S
      cases hq : decide (tk = x1)
      case false =>
        rw [hq] at htb
        have HP : Hid (stepP ws = none) := Lib.hid (by rw [HPE.out, if_neg (by simpa using hq)])
        clear hq
        go_wp2_with fail
        go_region_held3 (fun W => W.cell? ⟨w.heap.size + 1, 5, none⟩ = some (.slice AA kk.length ac) ∧ W.cell? ⟨b, o + 1, none⟩ = some (.string (str x1))) (first | exact H0S.out | exact HS5.out) (first
          | (go_at_call 56; (with_reducible refine HTR.out.mono ?_); rintro e w5 ⟨rfl, hb5⟩; have HB5 : Hid (Below wr.heap.size wr w5) := Lib.hid ((bdrew (Below.refl _ _)).trans hb5); have HS5 := Lib.hid (HSC.out w5 (HB5.out.mono HSZ2.out)); clear hb5))
        have HROW5 : Hid (w5.heap[w.heap.size + 1]? = some (.cells (stL 3 0 [] [] 0 (.slice AA kk.length ac) c0).toArray 44 (0, 0))) := Lib.hid ((HB5.out.block (w.heap.size + 1) (by have := HSZ2.out; omega)).trans HROWk.out)
        have HGR : Hid (w5.heap[w.heap.size]? = some (.cells #[.int .i64 0, .int .i64 0, .string ⟨#[]⟩, .string ⟨#[]⟩, .int .i64 0, .slice none 0 0, .int .i64 0, .int .i64 0, .int .i64 0, .int .i64 0, .int .i64 0, .int .i64 0, .int .i64 0, .int .i64 0, .int .i64 0, .int .i64 0, .int .i64 0, .int .i64 0, .int .i64 0] 44 (0, 0))) := Lib.hid ((HB5.out.block w.heap.size (by have := HSZ2.out; omega)).trans HRES.out)
        have HBW : Hid (Below w.heap.size w w5) := Lib.hid (HB.out.trans (HB5.out.mono HB.out.size))
        have HSLT : Hid (w.heap.size + 1 < w5.drew.heap.size) := Lib.hid (by have := HB5.out.size; have := HSZ2.out; show w.heap.size + 1 < w5.heap.size; omega)
        have HRLT : Hid (w.heap.size < w5.drew.heap.size) := Lib.hid (by have := HB5.out.size; have := HSZ2.out; show w.heap.size < w5.heap.size; omega)
        have HKP : Hid (∀ W' X, Below w5.heap.size w5 W' → Kp (W'.setRow w.heap.size X) (.slice AA kk.length ac) kk) := Lib.hid (fun W' X hb => Kp.of_own (own_setRow (HKW.out W' (HB5.out.trans (hb.mono HB5.out.size))) (by omega)))
        have HEL : Hid (∃ L, stL 3 0 [] [] 0 (.slice AA kk.length ac) c0 = L) := Lib.hid ⟨_, rfl⟩
        obtain ⟨L, hL⟩ := HEL.out
        have HLL : Hid (stL 3 0 [] [] 0 (.slice AA kk.length ac) c0 = L) := Lib.hid hL
        have HIL : Hid ((Tryd.prog.info? 44).map (·.size) = some L.length) := Lib.hid (by rw [← hL]; exact info30)
        have HIL2 : Hid ((Tryd.prog.info? 44).map (·.size) = some L.toArray.size) := Lib.hid (by rw [← hL]; exact info30)
        have HOS : Hid ((#[.int .i64 0, .int .i64 0, .string ⟨#[]⟩, .string ⟨#[]⟩, .int .i64 0, .slice none 0 0, .int .i64 0, .int .i64 0, .int .i64 0, .int .i64 0, .int .i64 0, .int .i64 0, .int .i64 0, .int .i64 0, .int .i64 0, .int .i64 0, .int .i64 0, .int .i64 0, .int .i64 0] : Array Value).size = L.toArray.size) := Lib.hid (by rw [← hL]; rfl)
        have HOL : Hid (L.toArray.all (·.oneCell') = true) := Lib.hid (by rw [← hL]; exact stL_one _ _ _ _ _ _ _ _ _)
        have HRL : Hid (w5.rangeAt (w.heap.size + 1) 0 L) := Lib.hid (by rw [← hL]; exact range_of_row (HROW5.out))
        clear hL HEL
        go_wp2_with fail
        refine wp_region_held_drew (S := fun W => W.rangeAt (w.heap.size + 1) 0 L) (by kernel_rfl) HRL.out (fun hSx => ?_)
        refine wpAnyH_take (i := 0) (oi := ⟨some 84, _, _, _, _, none⟩) (v := .agg L.toArray) rfl (by kernel_rfl) (by kernel_rfl) (by kernel_rfl) (fun _ _ _ h => h) (yieldsIf_load_mid (by kernel_rfl) 44 (.tmp 4) rfl (w.heap.size + 1) 0 rfl L _ (fun W hW => hW) Tryd.underlying44 rfl HIL.out) hSx ?_
        try simp only [Act.put, List.setIfInBounds_toArray]
        refine wpAnyH_take (i := 1) (oi := ⟨some 85, _, _, _, _, none⟩) (v := .bool false) rfl (by kernel_rfl) (by kernel_rfl) (by kernel_rfl) (fun _ _ _ h => h) (Or.inl ⟨by kernel_rfl, ?_⟩) hSx ?_
        · intro wx hSx2; clear hSx; go_simp
        try simp only [Act.put, List.setIfInBounds_toArray]
        refine wpAnyH_take (i := 2) (oi := ⟨some 86, _, _, _, _, none⟩) (v := .bool false) rfl (by kernel_rfl) (by kernel_rfl) (by kernel_rfl) (fun _ _ _ h => h) (Or.inl ⟨by kernel_rfl, ?_⟩) hSx ?_
        · intro wx hSx2; clear hSx; go_simp
        try simp only [Act.put, List.setIfInBounds_toArray]
        refine wpAnyH_take (i := 3) (oi := ⟨some 87, _, _, _, _, some (2, true)⟩) (v := undef) rfl (by kernel_rfl) (by kernel_rfl) (by kernel_rfl) (fun _ _ _ h => h) (Or.inr ⟨by kernel_rfl, rfl⟩) hSx ?_
        try simp only [Act.put, List.setIfInBounds_toArray]
        refine wpAnyH_take (i := 4) (oi := ⟨some 88, _, _, _, _, some (2, true)⟩) (v := undef) rfl (by kernel_rfl) (by kernel_rfl) (by kernel_rfl) (fun _ _ _ h => h) (Or.inr ⟨by kernel_rfl, rfl⟩) hSx ?_
        try simp only [Act.put, List.setIfInBounds_toArray]
        refine wpAnyH_take (i := 5) (oi := ⟨some 89, _, _, _, _, some (2, true)⟩) (v := undef) rfl (by kernel_rfl) (by kernel_rfl) (by kernel_rfl) (fun _ _ _ h => h) (Or.inr ⟨by kernel_rfl, rfl⟩) hSx ?_
        try simp only [Act.put, List.setIfInBounds_toArray]
        refine wpAnyH_take (i := 6) (oi := ⟨some 90, _, _, _, _, none⟩) (v := .bool false) rfl (by kernel_rfl) (by kernel_rfl) (by kernel_rfl) (fun _ _ _ h => h) (Or.inl ⟨by kernel_rfl, ?_⟩) hSx ?_
        · intro wx hSx2; clear hSx; go_simp
        try simp only [Act.put, List.setIfInBounds_toArray]
        have HGZ : Hid ((w5).drew.heap[w.heap.size]? = some (.cells #[.int .i64 0, .int .i64 0, .string ⟨#[]⟩, .string ⟨#[]⟩, .int .i64 0, .slice none 0 0, .int .i64 0, .int .i64 0, .int .i64 0, .int .i64 0, .int .i64 0, .int .i64 0, .int .i64 0, .int .i64 0, .int .i64 0, .int .i64 0, .int .i64 0, .int .i64 0, .int .i64 0] 44 (0, 0))) := HGR
        have HBZ : Hid (Below w.heap.size w (w5).drew) := Lib.hid (below_drew HBW.out)
        refine store_ready 7 (by kernel_rfl) (by kernel_rfl) (by kernel_rfl) 44 (.tmp 2) (.tmp 84) (by kernel_rfl) (by kernel_rfl) w.heap.size L.toArray (by kernel_rfl) (by kernel_rfl) 44 _ HGZ.out HIL2.out HOS.out HOL.out (fun j u hj => (setRow_cell_other (by omega)).trans (hSx j u hj)) (fun hSy => ?_)
        clear hSx
        have hSx := hSy
        clear hSy
        try simp only [Act.put, List.setIfInBounds_toArray]
        refine wpAnyH_take (i := 8) (oi := ⟨some 3, _, _, _, _, none⟩) (v := .bool false) rfl (by kernel_rfl) (by kernel_rfl) (by kernel_rfl) (fun _ _ _ h => h) (Or.inl ⟨by kernel_rfl, ?_⟩) hSx ?_
        · intro wx hSx2; clear hSx; go_simp
        try simp only [Act.put, List.setIfInBounds_toArray]
        refine wpAnyH_done (by kernel_rfl) ?_ _
        go_wp2
        refine bodyPost_ret (results_row2 rfl _ _ w.heap.size 44 L.toArray (0, 0) _ rfl (setRow_heap _ _ _ _ _ _ HGZ.out) Tryd.underlying44 rfl HIL2.out) rfl ?_
        exact ⟨⟨⟨3, 0, [], [], 0, kk, c0⟩, AA, ac, HKP.out _ _ (bdrew (Below.refl _ _)), HFA.out, ⟨by simp, by simp, HFK.out⟩, .inr ⟨by rw [← HLL.out]; rfl, HP.out⟩⟩, below_setRow HBZ.out (Nat.le_refl _) _⟩
      case true =>
        rw [hq] at htb
        have HPF : Hid (stepP ws = fin ⟨3, 0, [], [], 0, kk, c0⟩) := Lib.hid (by rw [HPE.out, if_pos (by simpa using hq)])
        clear hq
        go_wp2_with fail
        go_region_held3 (fun W => W.cell? ⟨w.heap.size + 1, 5, none⟩ = some (.slice AA kk.length ac) ∧ W.cell? ⟨b, o + 1, none⟩ = some (.string (str x1))) (first | exact H0S.out | exact HS5.out) (first
          | (go_at_call 56; (with_reducible refine HTR.out.mono ?_); rintro e w5 ⟨rfl, hb5⟩; have HB5 : Hid (Below wr.heap.size wr w5) := Lib.hid ((bdrew (Below.refl _ _)).trans hb5); have HS5 := Lib.hid (HSC.out w5 (HB5.out.mono HSZ2.out)); clear hb5))
        cases hm : mayB ⟨3, 0, [], [], 0, kk, c0⟩
        case false =>
          have HP : Hid (stepP ws = none) := Lib.hid (by rw [HPF.out, fin, hm]; rfl)
          have HROW5 : Hid (w5.heap[w.heap.size + 1]? = some (.cells (stL 3 0 [] [] 0 (.slice AA kk.length ac) c0).toArray 44 (0, 0))) := Lib.hid ((HB5.out.block (w.heap.size + 1) (by have := HSZ2.out; omega)).trans HROWk.out)
          have HGR : Hid (w5.heap[w.heap.size]? = some (.cells #[.int .i64 0, .int .i64 0, .string ⟨#[]⟩, .string ⟨#[]⟩, .int .i64 0, .slice none 0 0, .int .i64 0, .int .i64 0, .int .i64 0, .int .i64 0, .int .i64 0, .int .i64 0, .int .i64 0, .int .i64 0, .int .i64 0, .int .i64 0, .int .i64 0, .int .i64 0, .int .i64 0] 44 (0, 0))) := Lib.hid ((HB5.out.block w.heap.size (by have := HSZ2.out; omega)).trans HRES.out)
          have HBW : Hid (Below w.heap.size w w5) := Lib.hid (HB.out.trans (HB5.out.mono HB.out.size))
          have HSLT : Hid (w.heap.size + 1 < w5.drew.heap.size) := Lib.hid (by have := HB5.out.size; have := HSZ2.out; show w.heap.size + 1 < w5.heap.size; omega)
          have HRLT : Hid (w.heap.size < w5.drew.heap.size) := Lib.hid (by have := HB5.out.size; have := HSZ2.out; show w.heap.size < w5.heap.size; omega)
          have HKP : Hid (∀ W' X, Below w5.heap.size w5 W' → Kp (W'.setRow w.heap.size X) (.slice AA kk.length ac) kk) := Lib.hid (fun W' X hb => Kp.of_own (own_setRow (HKW.out W' (HB5.out.trans (hb.mono HB5.out.size))) (by omega)))
          have HEL : Hid (∃ L, stL 3 0 [] [] 0 (.slice AA kk.length ac) c0 = L) := Lib.hid ⟨_, rfl⟩
          obtain ⟨L, hL⟩ := HEL.out
          have HLL : Hid (stL 3 0 [] [] 0 (.slice AA kk.length ac) c0 = L) := Lib.hid hL
          have HIL : Hid ((Tryd.prog.info? 44).map (·.size) = some L.length) := Lib.hid (by rw [← hL]; exact info30)
          have HIL2 : Hid ((Tryd.prog.info? 44).map (·.size) = some L.toArray.size) := Lib.hid (by rw [← hL]; exact info30)
          have HOS : Hid ((#[.int .i64 0, .int .i64 0, .string ⟨#[]⟩, .string ⟨#[]⟩, .int .i64 0, .slice none 0 0, .int .i64 0, .int .i64 0, .int .i64 0, .int .i64 0, .int .i64 0, .int .i64 0, .int .i64 0, .int .i64 0, .int .i64 0, .int .i64 0, .int .i64 0, .int .i64 0, .int .i64 0] : Array Value).size = L.toArray.size) := Lib.hid (by rw [← hL]; rfl)
          have HOL : Hid (L.toArray.all (·.oneCell') = true) := Lib.hid (by rw [← hL]; exact stL_one _ _ _ _ _ _ _ _ _)
          have HRL : Hid (w5.rangeAt (w.heap.size + 1) 0 L) := Lib.hid (by rw [← hL]; exact range_of_row (HROW5.out))
          clear hL HEL
          have HCK : Hid (∀ w', Below w5.heap.size w5 w' → Calls Tryd.prog 28 #[.agg L.toArray] w' fun e w'' => e = .returned (.int .i64 1) ∧ Below w'.heap.size w' w'') := Lib.hid (fun w' hb => by
            have := check11 ⟨3, 0, [], [], 0, kk, c0⟩ AA ac w' (Kp.of_own (HKW.out w' (HB5.out.trans (hb.mono HB5.out.size)))) ⟨by simp, by simp, HFK.out⟩
            rw [hm, show (⟨3, 0, [], [], 0, kk, c0⟩ : St).A (.slice AA kk.length ac) = L.toArray from congrArg List.toArray HLL.out] at this
            exact this)
          clear hm
          go_wp2_with fail
          refine wp_region_held_drew (S := fun W => W.rangeAt (w.heap.size + 1) 0 L) (by kernel_rfl) HRL.out (fun hSx => ?_)
          refine wpAnyH_take (i := 0) (oi := ⟨some 84, _, _, _, _, none⟩) (v := .agg L.toArray) rfl (by kernel_rfl) (by kernel_rfl) (by kernel_rfl) (fun _ _ _ h => h) (yieldsIf_load_mid (by kernel_rfl) 44 (.tmp 4) rfl (w.heap.size + 1) 0 rfl L _ (fun W hW => hW) Tryd.underlying44 rfl HIL.out) hSx ?_
          try simp only [Act.put, List.setIfInBounds_toArray]
          refine wpAnyH_take (i := 1) (oi := ⟨some 85, _, _, _, _, none⟩) (v := .bool true) rfl (by kernel_rfl) (by kernel_rfl) (by kernel_rfl) (fun _ _ _ h => h) (Or.inl ⟨by kernel_rfl, ?_⟩) hSx ?_
          · intro wx hSx2; clear hSx; go_simp
          try simp only [Act.put, List.setIfInBounds_toArray]
          refine wpAnyH_take (i := 2) (oi := ⟨some 86, _, _, _, _, none⟩) (v := .bool true) rfl (by kernel_rfl) (by kernel_rfl) (by kernel_rfl) (fun _ _ _ h => h) (Or.inl ⟨by kernel_rfl, ?_⟩) hSx ?_
          · intro wx hSx2; clear hSx; go_simp
          try simp only [Act.put, List.setIfInBounds_toArray]
          refine wpAnyH_take (i := 3) (oi := ⟨some 87, _, _, _, _, some (2, true)⟩) (v := .agg L.toArray) rfl (by kernel_rfl) (by kernel_rfl) (by kernel_rfl) (fun _ _ _ h => h) (yieldsIf_load_mid (by kernel_rfl) 44 (.tmp 4) rfl (w.heap.size + 1) 0 rfl L _ (fun W hW => hW) Tryd.underlying44 rfl HIL.out) hSx ?_
          try simp only [Act.put, List.setIfInBounds_toArray]
          refine wpAnyH_ready (rs := [4]) (by kernel_rfl) (by simp) ?_
          refine AllReadyH.cons (o := ⟨some 88, _, _, _, _, some (2, true)⟩) rfl (fun KK hKK => ?_) AllReadyH.nil
          go_simp
          refine (HCK.out _ (bdrew (Below.refl _ _))).mono ?_
          rintro e wz ⟨rfl, hbz⟩
          have hSz : wz.rangeAt (w.heap.size + 1) 0 L := fun j u hj => (hbz.cell (p := ⟨(w.heap.size + 1), 0 + j, none⟩) HSLT.out).trans (hSx j u hj)
          refine hKK.out _ _ hSz (fun hSy => ?_)
          clear hKK hSx hSz
          have hSx := hSy
          clear hSy KK
          try simp only [Act.put, List.setIfInBounds_toArray, List.set_cons_zero, List.set_cons_succ]
          have HGZ : Hid (wz.heap[w.heap.size]? = some (.cells #[.int .i64 0, .int .i64 0, .string ⟨#[]⟩, .string ⟨#[]⟩, .int .i64 0, .slice none 0 0, .int .i64 0, .int .i64 0, .int .i64 0, .int .i64 0, .int .i64 0, .int .i64 0, .int .i64 0, .int .i64 0, .int .i64 0, .int .i64 0, .int .i64 0, .int .i64 0, .int .i64 0] 44 (0, 0))) := Lib.hid ((hbz.block w.heap.size HRLT.out).trans HGR.out)
          have HBZ : Hid (Below w.heap.size w wz) := Lib.hid ((below_drew HBW.out).trans (hbz.mono (below_drew HBW.out).size))
          refine wpAnyH_take (i := 5) (oi := ⟨some 89, _, _, _, _, some (2, true)⟩) (v := .bool false) rfl (by kernel_rfl) (by kernel_rfl) (by kernel_rfl) (fun _ _ _ h => h) (Or.inl ⟨by kernel_rfl, ?_⟩) hSx ?_
          · intro wx hSx2; clear hSx; go_simp
          try simp only [Act.put, List.setIfInBounds_toArray]
          refine wpAnyH_take (i := 6) (oi := ⟨some 90, _, _, _, _, none⟩) (v := .bool false) rfl (by kernel_rfl) (by kernel_rfl) (by kernel_rfl) (fun _ _ _ h => h) (Or.inl ⟨by kernel_rfl, ?_⟩) hSx ?_
          · intro wx hSx2; clear hSx; go_simp
          try simp only [Act.put, List.setIfInBounds_toArray]
          refine store_ready 7 (by kernel_rfl) (by kernel_rfl) (by kernel_rfl) 44 (.tmp 2) (.tmp 84) (by kernel_rfl) (by kernel_rfl) w.heap.size L.toArray (by kernel_rfl) (by kernel_rfl) 44 _ HGZ.out HIL2.out HOS.out HOL.out (fun j u hj => (setRow_cell_other (by omega)).trans (hSx j u hj)) (fun hSy => ?_)
          clear hSx
          have hSx := hSy
          clear hSy
          try simp only [Act.put, List.setIfInBounds_toArray]
          refine wpAnyH_take (i := 8) (oi := ⟨some 3, _, _, _, _, none⟩) (v := .bool false) rfl (by kernel_rfl) (by kernel_rfl) (by kernel_rfl) (fun _ _ _ h => h) (Or.inl ⟨by kernel_rfl, ?_⟩) hSx ?_
          · intro wx hSx2; clear hSx; go_simp
          try simp only [Act.put, List.setIfInBounds_toArray]
          refine wpAnyH_done (by kernel_rfl) ?_ _
          go_wp2
          refine bodyPost_ret (results_row2 rfl _ _ w.heap.size 44 L.toArray (0, 0) _ rfl (setRow_heap _ _ _ _ _ _ HGZ.out) Tryd.underlying44 rfl HIL2.out) rfl ?_
          exact ⟨⟨⟨3, 0, [], [], 0, kk, c0⟩, AA, ac, HKP.out _ _ ((bdrew (Below.refl _ _)).trans hbz), HFA.out, ⟨by simp, by simp, HFK.out⟩, .inr ⟨by rw [← HLL.out]; rfl, HP.out⟩⟩, below_setRow HBZ.out (Nat.le_refl _) _⟩
        case true =>
          have HP : Hid (stepP ws = some ⟨3, 0, [], [], 0, kk, c0⟩) := Lib.hid (by rw [HPF.out, fin, hm]; rfl)
          have HROW5 : Hid (w5.heap[w.heap.size + 1]? = some (.cells (stL 3 0 [] [] 0 (.slice AA kk.length ac) c0).toArray 44 (0, 0))) := Lib.hid ((HB5.out.block (w.heap.size + 1) (by have := HSZ2.out; omega)).trans HROWk.out)
          have HGR : Hid (w5.heap[w.heap.size]? = some (.cells #[.int .i64 0, .int .i64 0, .string ⟨#[]⟩, .string ⟨#[]⟩, .int .i64 0, .slice none 0 0, .int .i64 0, .int .i64 0, .int .i64 0, .int .i64 0, .int .i64 0, .int .i64 0, .int .i64 0, .int .i64 0, .int .i64 0, .int .i64 0, .int .i64 0, .int .i64 0, .int .i64 0] 44 (0, 0))) := Lib.hid ((HB5.out.block w.heap.size (by have := HSZ2.out; omega)).trans HRES.out)
          have HBW : Hid (Below w.heap.size w w5) := Lib.hid (HB.out.trans (HB5.out.mono HB.out.size))
          have HSLT : Hid (w.heap.size + 1 < w5.drew.heap.size) := Lib.hid (by have := HB5.out.size; have := HSZ2.out; show w.heap.size + 1 < w5.heap.size; omega)
          have HRLT : Hid (w.heap.size < w5.drew.heap.size) := Lib.hid (by have := HB5.out.size; have := HSZ2.out; show w.heap.size < w5.heap.size; omega)
          have HKP : Hid (∀ W' X, Below w5.heap.size w5 W' → Kp (W'.setRow w.heap.size X) (.slice AA kk.length ac) kk) := Lib.hid (fun W' X hb => Kp.of_own (own_setRow (HKW.out W' (HB5.out.trans (hb.mono HB5.out.size))) (by omega)))
          have HEL : Hid (∃ L, stL 3 0 [] [] 0 (.slice AA kk.length ac) c0 = L) := Lib.hid ⟨_, rfl⟩
          obtain ⟨L, hL⟩ := HEL.out
          have HLL : Hid (stL 3 0 [] [] 0 (.slice AA kk.length ac) c0 = L) := Lib.hid hL
          have HIL : Hid ((Tryd.prog.info? 44).map (·.size) = some L.length) := Lib.hid (by rw [← hL]; exact info30)
          have HIL2 : Hid ((Tryd.prog.info? 44).map (·.size) = some L.toArray.size) := Lib.hid (by rw [← hL]; exact info30)
          have HOS : Hid ((#[.int .i64 0, .int .i64 0, .string ⟨#[]⟩, .string ⟨#[]⟩, .int .i64 0, .slice none 0 0, .int .i64 0, .int .i64 0, .int .i64 0, .int .i64 0, .int .i64 0, .int .i64 0, .int .i64 0, .int .i64 0, .int .i64 0, .int .i64 0, .int .i64 0, .int .i64 0, .int .i64 0] : Array Value).size = L.toArray.size) := Lib.hid (by rw [← hL]; rfl)
          have HOL : Hid (L.toArray.all (·.oneCell') = true) := Lib.hid (by rw [← hL]; exact stL_one _ _ _ _ _ _ _ _ _)
          have HRL : Hid (w5.rangeAt (w.heap.size + 1) 0 L) := Lib.hid (by rw [← hL]; exact range_of_row (HROW5.out))
          clear hL HEL
          have HCK : Hid (∀ w', Below w5.heap.size w5 w' → Calls Tryd.prog 28 #[.agg L.toArray] w' fun e w'' => e = .returned (.int .i64 0) ∧ Below w'.heap.size w' w'') := Lib.hid (fun w' hb => by
            have := check11 ⟨3, 0, [], [], 0, kk, c0⟩ AA ac w' (Kp.of_own (HKW.out w' (HB5.out.trans (hb.mono HB5.out.size)))) ⟨by simp, by simp, HFK.out⟩
            rw [hm, show (⟨3, 0, [], [], 0, kk, c0⟩ : St).A (.slice AA kk.length ac) = L.toArray from congrArg List.toArray HLL.out] at this
            exact this)
          clear hm
          go_wp2_with fail
          refine wp_region_held_drew (S := fun W => W.rangeAt (w.heap.size + 1) 0 L) (by kernel_rfl) HRL.out (fun hSx => ?_)
          refine wpAnyH_take (i := 0) (oi := ⟨some 84, _, _, _, _, none⟩) (v := .agg L.toArray) rfl (by kernel_rfl) (by kernel_rfl) (by kernel_rfl) (fun _ _ _ h => h) (yieldsIf_load_mid (by kernel_rfl) 44 (.tmp 4) rfl (w.heap.size + 1) 0 rfl L _ (fun W hW => hW) Tryd.underlying44 rfl HIL.out) hSx ?_
          try simp only [Act.put, List.setIfInBounds_toArray]
          refine wpAnyH_take (i := 1) (oi := ⟨some 85, _, _, _, _, none⟩) (v := .bool true) rfl (by kernel_rfl) (by kernel_rfl) (by kernel_rfl) (fun _ _ _ h => h) (Or.inl ⟨by kernel_rfl, ?_⟩) hSx ?_
          · intro wx hSx2; clear hSx; go_simp
          try simp only [Act.put, List.setIfInBounds_toArray]
          refine wpAnyH_take (i := 2) (oi := ⟨some 86, _, _, _, _, none⟩) (v := .bool true) rfl (by kernel_rfl) (by kernel_rfl) (by kernel_rfl) (fun _ _ _ h => h) (Or.inl ⟨by kernel_rfl, ?_⟩) hSx ?_
          · intro wx hSx2; clear hSx; go_simp
          try simp only [Act.put, List.setIfInBounds_toArray]
          refine wpAnyH_take (i := 3) (oi := ⟨some 87, _, _, _, _, some (2, true)⟩) (v := .agg L.toArray) rfl (by kernel_rfl) (by kernel_rfl) (by kernel_rfl) (fun _ _ _ h => h) (yieldsIf_load_mid (by kernel_rfl) 44 (.tmp 4) rfl (w.heap.size + 1) 0 rfl L _ (fun W hW => hW) Tryd.underlying44 rfl HIL.out) hSx ?_
          try simp only [Act.put, List.setIfInBounds_toArray]
          refine wpAnyH_ready (rs := [4]) (by kernel_rfl) (by simp) ?_
          refine AllReadyH.cons (o := ⟨some 88, _, _, _, _, some (2, true)⟩) rfl (fun KK hKK => ?_) AllReadyH.nil
          go_simp
          refine (HCK.out _ (bdrew (Below.refl _ _))).mono ?_
          rintro e wz ⟨rfl, hbz⟩
          have hSz : wz.rangeAt (w.heap.size + 1) 0 L := fun j u hj => (hbz.cell (p := ⟨(w.heap.size + 1), 0 + j, none⟩) HSLT.out).trans (hSx j u hj)
          refine hKK.out _ _ hSz (fun hSy => ?_)
          clear hKK hSx hSz
          have hSx := hSy
          clear hSy KK
          try simp only [Act.put, List.setIfInBounds_toArray, List.set_cons_zero, List.set_cons_succ]
          have HGZ : Hid (wz.heap[w.heap.size]? = some (.cells #[.int .i64 0, .int .i64 0, .string ⟨#[]⟩, .string ⟨#[]⟩, .int .i64 0, .slice none 0 0, .int .i64 0, .int .i64 0, .int .i64 0, .int .i64 0, .int .i64 0, .int .i64 0, .int .i64 0, .int .i64 0, .int .i64 0, .int .i64 0, .int .i64 0, .int .i64 0, .int .i64 0] 44 (0, 0))) := Lib.hid ((hbz.block w.heap.size HRLT.out).trans HGR.out)
          have HBZ : Hid (Below w.heap.size w wz) := Lib.hid ((below_drew HBW.out).trans (hbz.mono (below_drew HBW.out).size))
          refine wpAnyH_take (i := 5) (oi := ⟨some 89, _, _, _, _, some (2, true)⟩) (v := .bool true) rfl (by kernel_rfl) (by kernel_rfl) (by kernel_rfl) (fun _ _ _ h => h) (Or.inl ⟨by kernel_rfl, ?_⟩) hSx ?_
          · intro wx hSx2; clear hSx; go_simp
          try simp only [Act.put, List.setIfInBounds_toArray]
          refine wpAnyH_take (i := 6) (oi := ⟨some 90, _, _, _, _, none⟩) (v := .bool true) rfl (by kernel_rfl) (by kernel_rfl) (by kernel_rfl) (fun _ _ _ h => h) (Or.inl ⟨by kernel_rfl, ?_⟩) hSx ?_
          · intro wx hSx2; clear hSx; go_simp
          try simp only [Act.put, List.setIfInBounds_toArray]
          refine store_ready 7 (by kernel_rfl) (by kernel_rfl) (by kernel_rfl) 44 (.tmp 2) (.tmp 84) (by kernel_rfl) (by kernel_rfl) w.heap.size L.toArray (by kernel_rfl) (by kernel_rfl) 44 _ HGZ.out HIL2.out HOS.out HOL.out (fun j u hj => (setRow_cell_other (by omega)).trans (hSx j u hj)) (fun hSy => ?_)
          clear hSx
          have hSx := hSy
          clear hSy
          try simp only [Act.put, List.setIfInBounds_toArray]
          refine wpAnyH_take (i := 8) (oi := ⟨some 3, _, _, _, _, none⟩) (v := .bool true) rfl (by kernel_rfl) (by kernel_rfl) (by kernel_rfl) (fun _ _ _ h => h) (Or.inl ⟨by kernel_rfl, ?_⟩) hSx ?_
          · intro wx hSx2; clear hSx; go_simp
          try simp only [Act.put, List.setIfInBounds_toArray]
          refine wpAnyH_done (by kernel_rfl) ?_ _
          go_wp2
          refine bodyPost_ret (results_row2 rfl _ _ w.heap.size 44 L.toArray (0, 0) _ rfl (setRow_heap _ _ _ _ _ _ HGZ.out) Tryd.underlying44 rfl HIL2.out) rfl ?_
          exact ⟨⟨⟨3, 0, [], [], 0, kk, c0⟩, AA, ac, HKP.out _ _ ((bdrew (Below.refl _ _)).trans hbz), HFA.out, ⟨by simp, by simp, HFK.out⟩, .inl ⟨by rw [← HLL.out]; rfl, HP.out⟩⟩, below_setRow HBZ.out (Nat.le_refl _) _⟩
end Go.Proofs.YtjakkmioofbcaaaDoor
