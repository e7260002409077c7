/- The walk over made: the table of uses. -/
import Derived.Test.YtkfajeicbkeigaaDoorTD
import Derived.Deep.RegionHeld3
import Derived.StillTailTactics
import Derived.Deep.AppendLies
import Derived.Deep.RegionLaw
namespace Go.Proofs.YtkfajeicbkeigaaDoor
open Go.RowKit Go.Maps
set_option maxRecDepth 100000 in
theorem Mem.look {B : Nat} {W : World} {t ms mb : Nat} {UA : Option Addr} {n c : Nat} {L : List Ck} {PA : Option Addr} {pc : Nat} {fs : Plc → Int} {fi : Plc → Option Nat} {nf : Plc → List Nm} {N : Nat} (h : Mem B W t ms mb UA n c L PA pc fs fi nf N) {p : Plc} (hp : PlcOk p) :
    (Instr.lookup 87 (.map (some mb)) (.agg #[.int .u32 p.1, .int .i64 p.2]) false).run Tryd.prog W = .ok (.map (fi p)) W := by
  obtain ⟨D, h1, h2⟩ := h.by_
  obtain ⟨v, ps, hrun, hv⟩ := h1.lookup law65 Tryd.underlying87 (Tryd.zeroValue92 W) (zd := .held (.map none)) rfl (key65 hp)
  rw [h2.2 p hp] at hv
  injection hv with hv
  injection hv with hv _
  injection hv with hv
  subst hv
  exact hrun
/-- what stands beside the table -/
structure Env (w2 : World) (ms B bu bc : Nat) (cu cc : Array Value) (W : World) : Prop where
  u : W.heap[bu]? = some (.cells cu 81)
  c : W.heap[bc]? = some (.cells cc 78)
  low : Below ms w2 W
  size : B ≤ W.heap.size
  lo : B ≤ bu ∧ B ≤ bc ∧ ms ≤ B
theorem Env.grown {w2 : World} {ms B bu bc : Nat} {cu cc : Array Value} {W W' : World} (h : Env w2 ms B bu bc cu cc W) {row : Option Nat} (hg : W.grownBy W' row) (hr : ∀ b, row = some b → b ≠ bu ∧ b ≠ bc ∧ ms ≤ b) : Env w2 ms B bu bc cu cc W' := by
  have lu := (Array.getElem?_eq_some_iff.1 h.u).1
  have lc := (Array.getElem?_eq_some_iff.1 h.c).1
  exact ⟨(hg.block bu lu (fun e => (hr bu e.symm).1 rfl)).trans h.u, (hg.block bc lc (fun e => (hr bc e.symm).2.1 rfl)).trans h.c, h.low.grown hg (Nat.le_trans h.lo.2.2 h.size) (fun j e => (hr j e).2.2), Nat.le_trans h.size hg.size, h.lo⟩
theorem Env.below {w2 : World} {ms B bu bc : Nat} {cu cc : Array Value} {W W' : World} (h : Env w2 ms B bu bc cu cc W) (hb : Below W.heap.size W W') : Env w2 ms B bu bc cu cc W' := h.grown (grown_of_below hb) (fun b e => by cases e)
theorem Env.setT {w2 : World} {ms B bu bc : Nat} {cu cc : Array Value} {W : World} (h : Env w2 ms B bu bc cu cc W) {t i : Nat} (ht : t < B) (hm : ms ≤ t) (v : Value) : Env w2 ms B bu bc cu cc (W.setCell ⟨t, i, none⟩ v) := by
  have hl := h.lo
  refine ⟨?_, ?_, h.low.setCell hm v, by simpa using h.size, h.lo⟩
  · rw [heap_setCell_other _ _ _ _ (by show bu ≠ t; omega)]; exact h.u
  · rw [heap_setCell_other _ _ _ _ (by show bc ≠ t; omega)]; exact h.c
theorem cells_ne_map {W : World} {b g : Nat} {cs : Array Value} {t : TypeId} {fr : Nat × Nat} (h : W.heap[b]? = some (.cells cs t fr)) (hm : ∃ es clock, W.heap[g]? = some (.map es clock)) : g ≠ b := by
  rintro rfl
  obtain ⟨es, clock, hm⟩ := hm
  rw [h] at hm
  cases hm
theorem cells_ne_row {W : World} {base e size n g : Nat} {v : Value} {xs : List Value} {cs : Array Value} {t : TypeId} {fr : Nat × Nat} (h : W.ownsRow base e size v n xs) (hg : W.heap[g]? = some (.cells cs t fr)) (hne : e ≠ t) {b : Nat} (hb : v.ownBlock = some b) : b ≠ g := by
  rintro rfl
  rcases h.2 with ⟨rfl, _⟩ | ⟨g', cap, cur, rfl, _, hg', _⟩
  · cases hb
  · simp only [Value.ownBlock, Option.some.injEq] at hb
    subst hb
    rw [hg] at hg'
    injection hg' with hg'
    injection hg' with _ hg' _
    exact hne hg'.symm
theorem still_at {P : Program} {id : Nat} {Q : Exit → Act → World → Prop} {a : Act} {w W : World} {l : List Oper} (n : Nat) (hm : P.follows .mixedOrders = true) (hB : Region.lexTailB .any l.toArray n = true) (hW : W = w.drew)
    (h : wpStill P l.toArray W (fun a' => wpList P l.toArray Q (l.drop n) a' W) (l.take n) a) : (Code.region id l.toArray true).wp P Q a w := by
  subst hW
  exact wp_region_still_tail n hm hB h
/-- an append whose run is known, as a step of a region that draws -/
theorem step_append_run {P : Program} {ops : Array Oper} {o : Oper} {a : Act} {w w' : World} {K : Act → World → Prop} {Q : Exit → Act → World → Prop} {E : Prop} (hgd : o.guard = none) (s x : Operand) (t : TypeId)
    (ho : o.op = .call { callee := .builtin .append, args := #[s, x], argTypes := #[t, t] }) {v y r : Value} (hs : a.eval s = v) (hx : a.eval x = y) (hr : (Builtin.append_ #[t, t] o.type #[v, y]).run P w = .ok r w') (hK : K (a.put o.dst r) w') :
    if Region.wanted o (yielded ops a.tmps) = true then Oper.wp P o a w K Q else E := by
  have hw : Region.wanted o (yielded ops a.tmps) = true := by simp [Region.wanted, hgd]
  rw [if_pos hw]
  unfold Oper.wp execOp
  simp only [ho, resolve, invoke, builtin, Sem.run_bind, Sem.run_pure, Result.andThen_ok, List.map_toArray, List.map_cons, List.map_nil, hs, hx, hr]
  exact hK
/-- one end alone -/
def Ends1 (A : Act) (W : World) : Exit → Act → World → Prop
  | .normal, a, w => a = A ∧ w = W
  | _, _, _ => False
theorem via {P : Program} {c : Code} {Q : Exit → Act → World → Prop} {a : Act} {w : World} (h : ∃ A W, c.wp P (Ends1 A W) a w ∧ Q .normal A W) : c.wp P Q a w := by
  obtain ⟨A, W, h1, h2⟩ := h
  exact Code.wp_mono (fun e a' w' he => by
    cases e with
    | normal => obtain ⟨rfl, rfl⟩ := he; exact h2
    | _ => exact he.elim) h1
theorem info65 : (Tryd.prog.info? 65).map (fun i => (i.zero, i.size, i.bytes)) = some (some (.agg #[.int .u32 0, .int .i64 0]), 2, 16) := by kernel_rfl
theorem cell_al {w : World} {p : Addr} {v : Value} (o : Obj) (h : w.cell? p = some v) : (w.alloc o).cell? p = some v := (World.grownBy_alloc w o none).cell h (by simp)
theorem nil92 (W : World) : (binOp .eql 92 (.map none) (.map none)).run Tryd.prog W = .ok (.bool true) W := by kernel_rfl
theorem some92 (a : Nat) (W : World) : (binOp .eql 92 (.map (some a)) (.map none)).run Tryd.prog W = .ok (.bool false) W := by kernel_rfl
set_option maxRecDepth 100000 in
set_option maxHeartbeats 8000000 in
theorem made44 {A : Option Addr} {c : Nat} {us : List Us} {w : World} (h : Uss w A us) (hl : Lim us) (hok : AllOk us) (hc : chk (cnt us) = 0) :
    Calls Tryd.prog 44 #[.slice A us.length c] w fun e w' => ∃ t, e = .returned (.tuple #[.pointer (some ⟨t, 0, none⟩), .bool true]) ∧ (∃ B ms mb UA d im PA pc, Made B w' t ms mb UA (cnt us).length d (prs (cnt us)) im PA pc ∧ Uss w' UA (cnt us)) ∧ Below w.heap.size w w' := by
  have HC := Lib.hid (check20 (c := c) h hl)
  rw [hc] at HC
  have HC2 : Hid (∀ W, Below w.heap.size w W → Calls Tryd.prog 43 #[.slice A us.length c] W fun e w' => ∃ B d, e = .returned (.slice B (cnt us).length d) ∧ Uss w' B (cnt us) ∧ Below W.heap.size W w') := Lib.hid (fun W hb => counting43 (h.below hb) hl)
  have hl2 := hl.cnt
  have HOK : Hid (AllOk (cnt us)) := Lib.hid (fun u hu => hok u (cnt_sub u hu))
  generalize cnt us = vs at *
  have hvl := hl2.1
  clear h hl hok hc
  obtain ⟨i0, hi0, hz0, hz1, hz2⟩ := info_parts info65
  have I0 := Lib.hid hi0
  have Z0 := Lib.hid hz0
  have S0 := Lib.hid hz1
  have Y0 := Lib.hid hz2
  clear hi0 hz0 hz1 hz2
  have HQB : Hid (∀ k, (prs (vs.take k)).length ≤ 120) := Lib.hid (fun k => by
    rw [prs_len]
    have := numC_le (us := vs.take k) (fun u hu => (hl2.2 u (List.mem_of_mem_take hu)).1)
    have h2 : (vs.take k).length ≤ 10 := by have := hl2.1; rw [List.length_take]; omega
    omega)
  have hmm := @run_makeMap Tryd.prog
  go_enter Tryd.func44, Tryd.ntmps44
  go_wp2_with fail
  refine Calls.mono HC.out ?_
  rintro e w1 ⟨rfl, hb1⟩
  have HB1 := Lib.hid hb1
  clear hb1
  go_wp2_with fail
  refine Calls.mono (HC2.out _ HB1.out) ?_
  rintro e w2 ⟨UA, d, rfl, hus, hb2⟩
  have HB2 : Hid (Below w.heap.size w w2) := Lib.hid (HB1.out.trans (hb2.mono HB1.out.size))
  have HU := Lib.hid hus
  clear hus hb2
  go_wp2_with fail
  obtain ⟨B, hB⟩ : ∃ B, B = w2.heap.size + 3 := ⟨_, rfl⟩
  obtain ⟨t, ht⟩ : ∃ t, t = w2.heap.size + 1 + 1 := ⟨_, rfl⟩
  obtain ⟨mb, hmb⟩ : ∃ t, t = w2.heap.size + 1 := ⟨_, rfl⟩
  obtain ⟨ms, hms⟩ : ∃ t, t = w2.heap.size := ⟨_, rfl⟩
  have HM0 : Hid (Made B (((w2.alloc (.map #[] 0)).alloc (.map #[] 0)).alloc (.cells #[.slice UA vs.length d, .map (some w2.heap.size), .map (some (w2.heap.size + 1)), .slice none 0 0] 90)) t ms mb UA vs.length d [] (fun _ => none) none 0) := Lib.hid (by
    subst hB ht hmb hms
    refine ⟨⟨by omega, ?_, World.ownsRow_nil _ _ _ _, ?_, ?_, fun p a h => (by cases h), fun p q a h => (by cases h)⟩, fun p => (by simp [plSet, pl])⟩
    · have := heap_alloc_new ((w2.alloc (.map #[] 0)).alloc (.map #[] 0)) (.cells #[.slice UA vs.length d, .map (some w2.heap.size), .map (some (w2.heap.size + 1)), .slice none 0 0] 90)
      simpa [pl] using this
    · exact ⟨_, ((World.ownsMap_made w2 Tryd.prog 65 (plainElem Tryd.prog 3)).alloc _).alloc _, FMap.nil _ _ _⟩
    · have := (World.ownsMap_made (w2.alloc (.map #[] 0)) Tryd.prog 65 RV).alloc (.cells #[.slice UA vs.length d, .map (some w2.heap.size), .map (some (w2.heap.size + 1)), .slice none 0 0] 90)
      rw [World.size_alloc] at this
      exact ⟨_, this, FMap.nil _ _ _⟩)
  have HBW0 : Hid (Below w2.heap.size w2 (((w2.alloc (.map #[] 0)).alloc (.map #[] 0)).alloc (.cells #[.slice UA vs.length d, .map (some w2.heap.size), .map (some (w2.heap.size + 1)), .slice none 0 0] 90))) := Lib.hid ((((Below.refl _ _).alloc (Nat.le_refl _) _).alloc (by simp) _).alloc (by simp; omega) _)
  have HBS : Hid (B ≤ (((w2.alloc (.map #[] 0)).alloc (.map #[] 0)).alloc (.cells #[.slice UA vs.length d, .map (some w2.heap.size), .map (some (w2.heap.size + 1)), .slice none 0 0] 90)).heap.size) := Lib.hid (by subst hB; simp)
  have HORD : Hid (ms < mb ∧ mb < t ∧ t < B) := Lib.hid (by omega)
  have HUS : Hid (∀ W, Below ms w2 W → Uss W UA vs) := Lib.hid (fun W hb => by subst hms; exact HU.out.below hb)
  have HFIN : Hid (∀ W, Below ms w2 W → Below w.heap.size w W) := Lib.hid (fun W hb => by subst hms; exact HB2.out.trans (hb.mono HB2.out.size))
  rw [← ht, ← hmb, ← hms] at *
  generalize ((w2.alloc (.map #[] 0)).alloc (.map #[] 0)).alloc (.cells #[.slice UA vs.length d, .map (some ms), .map (some mb), .slice none 0 0] 90) = W0 at *
  clear hB ht hmb hms hmm
  go_loopg [23] vs.length (fun gk i wr => ∃ k : Nat, k ≤ vs.length ∧ gk = vs.length - k ∧ i = .int .i64 k ∧ (∃ im PA pc, Made B wr t ms mb UA vs.length d (prs (vs.take k)) im PA pc) ∧ Below ms w2 wr ∧ B ≤ wr.heap.size)
  case atStart => exact ⟨0, Nat.zero_le _, rfl, rfl, ⟨_, _, _, HM0.out⟩, HBW0.out, HBS.out⟩
  case round =>
    obtain ⟨wo, rfl⟩ : ∃ wo, wo = wr := ⟨_, rfl⟩
    obtain ⟨k, hk, hgk, rfl, ⟨im, PA, pc, hmd⟩, hbw, hbs⟩ := hrel
    have HK := Lib.hid hgk
    have HMD := Lib.hid hmd
    have HBW := Lib.hid hbw
    have HBSO := Lib.hid hbs
    clear hgk hmd hbw hbs HM0 HBW0 HBS
    by_cases hlt : k < vs.length
    · obtain ⟨u, hu⟩ : ∃ u, vs[k]? = some u := ⟨vs[k]'hlt, by simp⟩
      obtain ⟨b, o, rfl, hbl, hr, hcks⟩ := (HUS.out _ HBW.out).get hu
      have HUM := Lib.hid (List.mem_of_getElem? hu)
      have HCKS : Hid (∀ W, Below ms w2 W → Cks W u.A u.cs) := Lib.hid (fun W hb => (HUS.out W hb).2 u HUM.out)
      have HPT := Lib.hid (prs_take hu)
      have HL := Lib.hid (hl2.2 u HUM.out)
      have HPU : Hid (∀ m c, u.cs[m]? = some c → prU u (m + 1) = prU u m ++ [(u.nm, c)]) := Lib.hid (fun m c h => prU_snoc h)
      have HPU0 : Hid (prU u 0 = []) := Lib.hid rfl
      have HCO : Hid (∀ c ∈ u.cs, CkOk c) := Lib.hid (HOK.out u HUM.out)
      have c0 := hr 0 _ rfl
      have c1 := hr 1 _ rfl
      rw [Nat.add_zero] at c0
      obtain ⟨nm, uA, uc, cs⟩ := u
      simp only at *
      have HQK := Lib.hid (HQB.out k)
      have HGB : Hid (∀ m, (prU ⟨nm, uA, uc, cs⟩ m).length ≤ 12) := Lib.hid (fun m => by have h1 : cs.length ≤ 12 := HL.out.1; unfold prU; rw [List.length_map, List.length_take]; show min m cs.length ≤ 12; omega)
      generalize hG : prU ⟨nm, uA, uc, cs⟩ = G at *
      generalize hQ : prs (vs.take k) = Q at *
      clear hG hQ hr hcks hu hbl
      have hk0 : (0 : Int) ≤ (k : Int) := by omega
      have hcl : cs.length ≤ 12 := HL.out.1
      have hk1 : (k : Int) < (vs.length : Int) := by omega
      have hbx := heap_alloc_new wo (.cells #[.string (str nm), .slice uA cs.length uc] 81)
      have HUB : Hid ((wo.alloc (.cells #[.string (str nm), .slice uA cs.length uc] 81)).heap[wo.heap.size]? = some (.cells #[.string (str nm), .slice uA cs.length uc] 81)) := Lib.hid hbx
      have e1 := cell_of_row (wo.alloc (.cells #[.string (str nm), .slice uA cs.length uc] 81)) wo.heap.size 1 _ 81 (0, 0) hbx
      have HBL1 : Hid (Below wo.heap.size wo (wo.alloc (.cells #[.string (str nm), .slice uA cs.length uc] 81))) := Lib.hid ((Below.refl _ _).alloc (Nat.le_refl _) _)
      have HMD1 : Hid (Made B (wo.alloc (.cells #[.string (str nm), .slice uA cs.length uc] 81)) t ms mb (some ⟨b, o, none⟩) vs.length d (Q ++ G 0) im PA pc) := Lib.hid (by rw [HPU0.out, List.append_nil]; exact HMD.out.grown HBL1.out)
      have HBW1 : Hid (Below ms w2 (wo.alloc (.cells #[.string (str nm), .slice uA cs.length uc] 81))) := Lib.hid (HBW.out.trans (HBL1.out.mono (by have := HORD.out; have := HBSO.out; omega)))
      have HBS1 : Hid (B ≤ (wo.alloc (.cells #[.string (str nm), .slice uA cs.length uc] 81)).heap.size) := Lib.hid (by have := HBSO.out; simp; omega)
      clear hbx
      go_wp2_with fail
      clear e1 c0 c1
      obtain ⟨bu, hbu⟩ : ∃ bu, bu = wo.heap.size := ⟨_, rfl⟩
      have HBU : Hid (B ≤ bu) := Lib.hid (by rw [hbu]; exact HBSO.out)
      rw [← hbu] at HUB ⊢
      generalize wo.alloc (.cells #[.string (str nm), .slice uA cs.length uc] 81) = W1 at *
      clear hbu HBL1
      go_loopg [30] cs.length (fun gk2 i2 wQ => ∃ m : Nat, m ≤ cs.length ∧ gk2 = cs.length - m ∧ i2 = .int .i64 m ∧ (∃ im PA pc, Made B wQ t ms mb (some ⟨b, o, none⟩) vs.length d (Q ++ G m) im PA pc) ∧ wQ.heap[bu]? = some (.cells #[.string (str nm), .slice uA cs.length uc] 81) ∧ Below ms w2 wQ ∧ B ≤ wQ.heap.size)
      case atStart => exact ⟨0, Nat.zero_le _, rfl, rfl, ⟨_, _, _, HMD1.out⟩, HUB.out, HBW1.out, HBS1.out⟩
      case round =>
        obtain ⟨m, hm, hgm, rfl, ⟨im, PA, pc, hmd⟩, hub, hbw, hbs⟩ := hrel
        have HM := Lib.hid hgm
        have HMD := Lib.hid hmd
        have HUB := Lib.hid hub
        have HBW := Lib.hid hbw
        have HBS := Lib.hid hbs
        clear hgm hmd hub hbw hbs
        by_cases hlt2 : m < cs.length
        · obtain ⟨x, hx⟩ : ∃ x, cs[m]? = some x := ⟨cs[m]'hlt2, by simp⟩
          obtain ⟨b2, o2, rfl, hbl2, hr2⟩ := (HCKS.out _ HBW.out).get hx
          have f0 := hr2 0 _ rfl
          have f1 := hr2 1 _ rfl
          have f2 := hr2 2 _ rfl
          rw [Nat.add_zero] at f0
          have HPX := Lib.hid (HPU.out m x hx)
          have HXO := Lib.hid (HCO.out x (List.mem_of_getElem? hx))
          obtain ⟨⟨xb, xs⟩, xl⟩ := x
          simp only at *
          have hm0 : (0 : Int) ≤ (m : Int) := by omega
          have hm1 : (m : Int) < (cs.length : Int) := by omega
          clear hr2 hx hbl2
          go_wp2_with fail
          have HBL3 : Hid (Below wr.heap.size wr (wr.alloc (.cells #[.int .u32 xb, .int .i64 xs, .int .i64 xl] 78))) := Lib.hid ((Below.refl _ _).alloc (Nat.le_refl _) _)
          have HMD3 : Hid (Made B (wr.alloc (.cells #[.int .u32 xb, .int .i64 xs, .int .i64 xl] 78)) t ms mb (some ⟨b, o, none⟩) vs.length d (Q ++ G m) im PA pc) := Lib.hid (HMD.out.grown HBL3.out)
          have HEV3 : Hid (Env w2 ms B bu wr.heap.size #[.string (str nm), .slice (some ⟨b2, o2, none⟩) cs.length uc] #[.int .u32 xb, .int .i64 xs, .int .i64 xl] (wr.alloc (.cells #[.int .u32 xb, .int .i64 xs, .int .i64 xl] 78))) := Lib.hid ⟨(HBL3.out.block _ (Array.getElem?_eq_some_iff.1 HUB.out).1).trans HUB.out, heap_alloc_new _ _, HBW.out.trans (HBL3.out.mono (by have := HORD.out; have := HBS.out; omega)), by have := HBS.out; simp; omega, HBU.out, HBS.out, by have := HORD.out; omega⟩
          obtain ⟨bc, hbc⟩ : ∃ bc, bc = wr.heap.size := ⟨_, rfl⟩
          rw [← hbc] at HEV3 ⊢
          generalize wr.alloc (.cells #[.int .u32 xb, .int .i64 xs, .int .i64 xl] 78) = W3 at *
          have HN : Hid ((Q ++ G m).length ≤ 132) := Lib.hid (by rw [List.length_append]; have := HQK.out; have := HGB.out m; omega)
          have HKEY := Lib.hid (key9 HL.out.2)
          clear hbc HBL3 f0 f1 f2 HMD HUB HBW HBS
          have HCL : Hid (∀ W, Env w2 ms B bu bc #[.string (str nm), .slice (some ⟨b2, o2, none⟩) cs.length uc] #[.int .u32 xb, .int .i64 xs, .int .i64 xl] W → W.cell? ⟨bc, 0, none⟩ = some (.int .u32 xb) ∧ W.cell? ⟨bc, 1, none⟩ = some (.int .i64 xs) ∧ W.cell? ⟨bc, 2, none⟩ = some (.int .i64 xl) ∧ W.cell? ⟨bu, 0, none⟩ = some (.string (str nm))) := Lib.hid (fun W h => ⟨cell_of_row W bc 0 _ 78 (0, 0) h.c, cell_of_row W bc 1 _ 78 (0, 0) h.c, cell_of_row W bc 2 _ 78 (0, 0) h.c, cell_of_row W bu 0 _ 81 (0, 0) h.u⟩)
          have ct2 : W3.cell? ⟨t, 2, none⟩ = some (.map (some mb)) := cell_of_row W3 t 2 _ 90 (0, 0) HMD3.out.1.tab
          obtain ⟨cb0, cb1, _, _⟩ := HCL.out _ HEV3.out
          have HLK : Hid (∀ W, Below W3.heap.size W3 W → (Instr.lookup 87 (.map (some mb)) (.agg #[.int .u32 xb, .int .i64 xs]) false).run Tryd.prog W = .ok (.map (im (xb, xs))) W) := Lib.hid (fun W hb => (HMD3.out.grown hb).1.look HXO.out.1)
          rcases hi : im (xb, xs) with _ | a
          · have HI := Lib.hid hi
            rw [hi] at HLK
            clear hi
            have hl10 : ∀ nq, (Instr.lookup 87 (.map (some mb)) (.agg #[.int .u32 xb, .int .i64 xs]) false).run Tryd.prog (W3.drewN nq) = .ok (.map none) (W3.drewN nq) := fun nq => HLK.out _ (below_drewN (Below.refl _ _) nq)
            have q92 := nil92
            go_quiet (fail)
            clear hl10 q92
            obtain ⟨W4, hW4⟩ : ∃ W4, W4 = W3.drewN nq := ⟨_, rfl⟩
            have HB4 : Hid (Below W3.heap.size W3 W4) := Lib.hid (by subst hW4; exact (below_drewN (Below.refl _ _) nq))
            rw [← hW4]
            clear hW4
            have HMD4 := Lib.hid (HMD3.out.grown HB4.out)
            have HE4 := Lib.hid (HEV3.out.below HB4.out)
            clear ct2 cb0 cb1
            have hmm := @run_makeMap Tryd.prog
            obtain ⟨g, hgg⟩ : ∃ g, g = W4.heap.size := ⟨_, rfl⟩
            obtain ⟨W5, hW5⟩ : ∃ W, W = (W4.alloc (.map #[] 0)).drew := ⟨_, rfl⟩
            have HB5 : Hid (Below W4.heap.size W4 W5) := Lib.hid (by subst hW5; exact below_drew ((Below.refl _ _).alloc (Nat.le_refl _) _))
            have HM5 := Lib.hid (HMD4.out.1.grown HB5.out)
            have HE5 := Lib.hid (HE4.out.below HB5.out)
            have HNP : Hid ((xb, xs) ∉ plSet (Q ++ G m)) := Lib.hid ((HMD4.out.2 _).1 HI.out)
            have HOG : Hid (W5.ownsMap Tryd.prog 9 (plainElem Tryd.prog 3) g (3 * (Q ++ G m).length) (setS (nmF (Q ++ G m) (xb, xs)))) := Lib.hid (by
              rw [nmF_none HNP.out, hgg, hW5]
              exact (World.ownsMap_made W4 Tryd.prog 9 (plainElem Tryd.prog 3)).mono (Nat.zero_le _))
            obtain ⟨D, hD1, hD2⟩ := HM5.out.by_
            obtain ⟨W6, hup6, hown6, hg6⟩ := hD1.update law65 Tryd.underlying87 (by simp only [maxLen]; have := HN.out; omega) (key65 HXO.out.1) (val := .map (some g)) (d := .held (.map (some g))) (ps := []) rfl
            have HM6 := Lib.hid (HM5.out.putBy HXO.out.1 (by rw [hgg]; exact HE4.out.size) HOG.out (fun q a hq => by have := (HMD4.out.1.inn q a hq).2.lt; omega) hD2 hown6 hg6)
            have HE6 : Hid (Env w2 ms B bu bc #[.string (str nm), .slice (some ⟨b2, o2, none⟩) cs.length uc] #[.int .u32 xb, .int .i64 xs, .int .i64 xl] W6) := Lib.hid (HE5.out.grown hg6 (fun q e => by cases e; have := HORD.out; have := HE5.out.lo; omega))
            have hup6' : (Instr.mapUpdate 87 (.map (some mb)) (.agg #[.int .u32 xb, .int .i64 xs]) (.map (some W4.heap.size))).run Tryd.prog (W4.alloc (.map #[] 0)).drew = .ok () W6 := by rw [← hgg, ← hW5]; exact hup6
            have HS0 : Hid (W4.cell? ⟨t, 2, none⟩ = some (.map (some mb)) ∧ W4.cell? ⟨bc, 0, none⟩ = some (.int .u32 xb) ∧ W4.cell? ⟨bc, 1, none⟩ = some (.int .i64 xs)) := Lib.hid ⟨cell_of_row W4 t 2 _ 90 (0, 0) HMD4.out.1.tab, (HCL.out _ HE4.out).1, (HCL.out _ HE4.out).2.1⟩
            have HS1 : Hid ((W4.alloc (.map #[] 0)).drew.cell? ⟨t, 2, none⟩ = some (.map (some mb)) ∧ (W4.alloc (.map #[] 0)).drew.cell? ⟨bc, 0, none⟩ = some (.int .u32 xb) ∧ (W4.alloc (.map #[] 0)).drew.cell? ⟨bc, 1, none⟩ = some (.int .i64 xs)) := Lib.hid ⟨cell_al _ HS0.out.1, cell_al _ HS0.out.2.1, cell_al _ HS0.out.2.2⟩
            have HS2 : Hid (W6.cell? ⟨t, 2, none⟩ = some (.map (some mb)) ∧ W6.cell? ⟨bc, 0, none⟩ = some (.int .u32 xb) ∧ W6.cell? ⟨bc, 1, none⟩ = some (.int .i64 xs)) := Lib.hid ⟨cell_of_row W6 t 2 _ 90 (0, 0) HM6.out.tab, (HCL.out _ HE6.out).1, (HCL.out _ HE6.out).2.1⟩
            have HGG := Lib.hid hgg
            clear hgg hW5 hD1 hD2 hup6 hown6 hg6
            go_wp2_with fail
            go_region_held3 (fun W => W.cell? ⟨t, 2, none⟩ = some (.map (some mb)) ∧ W.cell? ⟨bc, 0, none⟩ = some (.int .u32 xb) ∧ W.cell? ⟨bc, 1, none⟩ = some (.int .i64 xs)) (first | exact HS0.out | exact HS1.out | exact HS2.out) (first | fail)
            clear hup6'
            obtain ⟨W7, hW7⟩ : ∃ W, W = W6.drew := ⟨_, rfl⟩
            have HB7 : Hid (Below W6.heap.size W6 W7) := Lib.hid (by subst hW7; exact below_drew (Below.refl _ _))
            have HW7 := Lib.hid hW7
            clear hW7
            have HM7 := Lib.hid (HM6.out.grown HB7.out)
            have HE7 := Lib.hid (HE6.out.below HB7.out)
            have ct1 : W7.cell? ⟨t, 1, none⟩ = some (.map (some ms)) := cell_of_row W7 t 1 _ 90 (0, 0) HM7.out.tab
            obtain ⟨cb0, cb1, cb2, _⟩ := HCL.out _ HE7.out
            obtain ⟨D2, hD1, hD2⟩ := HM7.out.size
            have HX3 := Lib.hid (plainElem_int (H := Unit) Tryd.underlying3 HXO.out.2)
            have HD1 := Lib.hid hD1
            have HD2 := Lib.hid hD2
            have HKX := Lib.hid (key65 HXO.out.1)
            clear hD1 hD2
            go_wp2_with fail
            refine still_at 8 (by kernel_rfl) (by kernel_rfl) HW7.out ?_
            simp only [List.take_succ_cons, List.take_zero, List.drop_succ_cons, List.drop_zero]
            repeat still_step
            refine wpStill_nil ?_
            go_wp2_with (first | (at_mapUpdate; refine wpList_mapUpdate_own _ rfl _ _ _ 86 rfl 65 3 law65 Tryd.underlying86 _ ms ((3 * (Q ++ G m).length) + 1) _ rfl HD1.out (by simp only [maxLen]; have := HN.out; omega) _ _ _ rfl rfl HKX.out (.lit (.int .i64 xl)) [] HX3.out ?_; intro W8 hown8 hg8))
            have HM8 := Lib.hid (HM7.out.putSize HXO.out.1 HD2.out hown8 hg8)
            have HE8 : Hid (Env w2 ms B bu bc #[.string (str nm), .slice (some ⟨b2, o2, none⟩) cs.length uc] #[.int .u32 xb, .int .i64 xs, .int .i64 xl] W8) := Lib.hid (HE7.out.grown hg8 (fun q e => by cases e; have := HORD.out; have := HE7.out.lo; omega))
            clear hown8 hg8 ct1 cb0 cb1 cb2
            obtain ⟨W9, hW9⟩ : ∃ W, W = (W8.alloc (.cells #[.int .u32 xb, .int .i64 xs] 65)).drew := ⟨_, rfl⟩
            have HB9 : Hid (Below W8.heap.size W8 W9) := Lib.hid (by subst hW9; exact below_drew ((Below.refl _ _).alloc (Nat.le_refl _) _))
            have HM9 := Lib.hid (HM8.out.grown HB9.out)
            have HE9 := Lib.hid (HE8.out.below HB9.out)
            have HPL := Lib.hid (pl_len (Q ++ G m))
            obtain ⟨PA', pc', W10, hrun, hown10, hg10⟩ : ∃ A' c' W', (Builtin.append_ #[88, 88] 88 #[.slice PA (pl (Q ++ G m)).length pc, .slice (some ⟨W8.heap.size, 0, none⟩) 1 1]).run Tryd.prog (W8.alloc (.cells #[.int .u32 xb, .int .i64 xs] 65)).drew = .ok (.slice A' ((pl (Q ++ G m)).length + 1) c') W' ∧ W'.ownsRow B 65 2 (.slice A' ((pl (Q ++ G m)).length + 1) c') ((pl (Q ++ G m)).length + 1) ((pl (Q ++ G m)).flatMap plV ++ plV ((xb, xs), xl)) ∧ W9.grownBy W' (Value.slice PA (pl (Q ++ G m)).length pc).ownBlock := by
              rw [← hW9]
              obtain ⟨gg, cap, w', h1, h2, h3, _, _⟩ := run_append_lies (P := Tryd.prog) W9 88 88 B 65 i0 _ 2 16 Tryd.underlying88 I0.out Z0.out S0.out Y0.out rfl (by decide) _ _ _ HM9.out.row ⟨W8.heap.size, 0, none⟩ 1 1 [.int .u32 xb, .int .i64 xs] rfl (by rw [hW9]; exact new2 W8 _ _ 65 _ rfl) (by simp [Value.oneCell']) (by omega) (by have := HN.out; have := HPL.out; unfold maxLen; omega) (by have := HN.out; have := HPL.out; omega) HE9.out.size _ rfl
              exact ⟨_, _, _, h1, h2, h3⟩
            have HT10 : Hid (W10.heap[t]? = some (.cells (tabA (some ⟨b, o, none⟩) vs.length d ms mb PA (pl (Q ++ G m)).length pc) 90)) := Lib.hid ((hg10.block t HM9.out.tl (fun e => by have := (HM9.out.row.lt t e.symm).1; have := HORD.out; omega)).trans HM9.out.tab)
            have HM11 := Lib.hid (HM9.out.push (x := ((xb, xs), xl)) hown10 hg10)
            have HE11 : Hid (Env w2 ms B bu bc #[.string (str nm), .slice (some ⟨b2, o2, none⟩) cs.length uc] #[.int .u32 xb, .int .i64 xs, .int .i64 xl] (W10.setCell ⟨t, 3, none⟩ (.slice PA' ((pl (Q ++ G m)).length + 1) pc'))) := Lib.hid ((HE9.out.grown hg10 (fun q e => ⟨cells_ne_row HM9.out.row HE9.out.u (by decide) e, cells_ne_row HM9.out.row HE9.out.c (by decide) e, by have := (HM9.out.row.lt q e).1; have := HE9.out.lo; omega⟩)).setT HORD.out.2.2 (by have := HORD.out; omega) _)
            have ct3 : W8.cell? ⟨t, 3, none⟩ = some (.slice PA (pl (Q ++ G m)).length pc) := cell_of_row W8 t 3 _ 90 (0, 0) HM8.out.tab
            have ct3b := cell_al (.cells #[.int .u32 xb, .int .i64 xs] 65) ct3
            have ct3c : W10.cell? ⟨t, 3, none⟩ = some (.slice PA (pl (Q ++ G m)).length pc) := cell_of_row W10 t 3 _ 90 (0, 0) HT10.out
            have cf3c : W10.frozen? ⟨t, 3, none⟩ = false := frozen_of_row W10 t 3 _ 90 HT10.out
            obtain ⟨cb0, cb1, _, _⟩ := HCL.out _ HE8.out
            clear hW9 hown10 hg10
            obtain ⟨ln, hln⟩ : ∃ ln, (pl (Q ++ G m)).length = ln := ⟨_, rfl⟩
            have HLN := Lib.hid hln
            rw [hln] at hrun HM11 HE11 ct3 ct3b ct3c
            clear hln
            have HRUN := Lib.hid hrun
            clear hrun
            go_wp2_with fail
            refine via ?_
            apply Exists.intro
            apply Exists.intro
            refine ⟨?_, ?_⟩
            · go_region_law (refine step_append_run rfl (.tmp 61) (.tmp 64) 88 rfl rfl rfl HRUN.out ?_)
              all_goals exact ⟨rfl, rfl⟩
            all_goals
              clear ct3 ct3b ct3c cf3c cb0 cb1
              have HPE : Hid (pl (Q ++ G m ++ [(nm, ((xb, xs), xl))]) = pl (Q ++ G m) ++ [((xb, xs), xl)]) := Lib.hid (pl_new HNP.out)
              have HFN : Hid (∀ W', Mem B W' t ms mb (some ⟨b, o, none⟩) vs.length d (pl (Q ++ G m) ++ [((xb, xs), xl)]) PA' pc' (fun q => if q = (xb, xs) then xl else lenF (Q ++ G m) q) (fun q => if q = (xb, xs) then some g else im q) (fun q => if q = (xb, xs) then nmF (Q ++ G m) q ++ [nm] else nmF (Q ++ G m) q) ((3 * (Q ++ G m).length) + 1 + 1 + 1) → ∃ im PA pc, Made B W' t ms mb (some ⟨b, o, none⟩) vs.length d (Q ++ G (m + 1)) im PA pc) := Lib.hid (fun W' h => by
                refine ⟨(fun q => if q = (xb, xs) then some g else im q), PA', pc', ?_, ?_⟩
                · rw [HPX.out, ← List.append_assoc]
                  rw [← HPE.out] at h
                  rw [show 3 * (Q ++ G m ++ [(nm, ((xb, xs), xl))]).length = (3 * (Q ++ G m).length) + 1 + 1 + 1 by simp; omega]
                  rw [show lenF (Q ++ G m ++ [(nm, ((xb, xs), xl))]) = fun q => if q = (xb, xs) then xl else lenF (Q ++ G m) q from funext (fun q => lenF_new HNP.out q)]
                  rw [show nmF (Q ++ G m ++ [(nm, ((xb, xs), xl))]) = fun q => if q = (xb, xs) then nmF (Q ++ G m) q ++ [nm] else nmF (Q ++ G m) q from funext (fun q => nmF_snoc _ _ q)]
                  exact h
                · intro q
                  rw [HPX.out, ← List.append_assoc]
                  rw [show plSet (Q ++ G m ++ [(nm, ((xb, xs), xl))]) = plSet (Q ++ G m) ++ [(xb, xs)] by unfold plSet; rw [HPE.out, List.map_append]; rfl]
                  dsimp only
                  by_cases e : q = (xb, xs)
                  · rw [if_pos e]; simp [e]
                  · rw [if_neg e, HMD4.out.2 q]; simp [e])
              obtain ⟨WZ, hWZ⟩ : ∃ W, W = (W10.setCell ⟨t, 3, none⟩ (.slice PA' (ln + 1) pc')).drew := ⟨_, rfl⟩
              have HBZ : Hid (Below (W10.setCell ⟨t, 3, none⟩ (.slice PA' (ln + 1) pc')).heap.size (W10.setCell ⟨t, 3, none⟩ (.slice PA' (ln + 1) pc')) WZ) := Lib.hid (by subst hWZ; exact below_drew (Below.refl _ _))
              have HWZ := Lib.hid hWZ
              clear hWZ
              have HMZ := Lib.hid (HM11.out.grown HBZ.out)
              have HEZ := Lib.hid (HE11.out.below HBZ.out)
              have hl14 : (Instr.lookup 87 (.map (some mb)) (.agg #[.int .u32 xb, .int .i64 xs]) false).run Tryd.prog WZ = .ok (.map (some g)) WZ := by
                have := HMZ.out.look (p := (xb, xs)) HXO.out.1
                rw [show (if ((xb, xs) : Plc) = (xb, xs) then some g else im (xb, xs)) = some g from if_pos rfl] at this
                exact this
              have ct2 : WZ.cell? ⟨t, 2, none⟩ = some (.map (some mb)) := cell_of_row WZ t 2 _ 90 (0, 0) HMZ.out.tab
              obtain ⟨cb0, cb1, _, cu0⟩ := HCL.out _ HEZ.out
              have HINN := Lib.hid (HMZ.out.inn (xb, xs) g (if_pos rfl))
              have h1w : (Lit.int .i64 1).wf = true := rfl
              go_wp2_with fail
              refine still_at 9 (by kernel_rfl) (by kernel_rfl) HWZ.out ?_
              simp only [List.take_succ_cons, List.take_zero, List.drop_succ_cons, List.drop_zero]
              repeat still_step
              refine wpStill_nil ?_
              go_wp2_with (first | (at_mapUpdate; refine wpList_mapUpdate_own _ rfl _ _ _ 92 rfl 9 3 law9 Tryd.underlying92 _ g ((3 * (Q ++ G m).length) + 1 + 1) _ rfl HINN.out.2 (by simp only [maxLen]; have := HN.out; omega) _ _ _ rfl rfl HKEY.out one [] (plainElem_int Tryd.underlying3 h1w) ?_; intro w9 hown9 hgrow9))
              have HM9 := Lib.hid (HMZ.out.putName (if_pos rfl) hown9 hgrow9)
              have HE9 : Hid (Env w2 ms B bu bc #[.string (str nm), .slice (some ⟨b2, o2, none⟩) cs.length uc] #[.int .u32 xb, .int .i64 xs, .int .i64 xl] w9) := Lib.hid (HEZ.out.grown hgrow9 (fun q e => by
                cases e
                have hmo := ownsMap_obj HINN.out.2
                exact ⟨cells_ne_map HEZ.out.u hmo, cells_ne_map HEZ.out.c hmo, by have := HINN.out.1; have := HEZ.out.lo; omega⟩))
              clear hown9 hgrow9 hl14 ct2 cb0 cb1 cu0
              go_wp2_with fail
              go_roundg (cs.length - (m + 1))
              case measure => rw [HM.out]; omega
              case rel => exact ⟨m + 1, by omega, rfl, by go_num, HFN.out _ HM9.out, HE9.out.u, HE9.out.low, HE9.out.size⟩
          · have HI := Lib.hid hi
            rw [hi] at HLK
            clear hi
            have hl10 : ∀ nq, (Instr.lookup 87 (.map (some mb)) (.agg #[.int .u32 xb, .int .i64 xs]) false).run Tryd.prog (W3.drewN nq) = .ok (.map (some a)) (W3.drewN nq) := fun nq => HLK.out _ (below_drewN (Below.refl _ _) nq)
            have q92 := some92 a
            go_quiet (fail)
            clear hl10 q92
            obtain ⟨W4, hW4⟩ : ∃ W4, W4 = W3.drewN nq := ⟨_, rfl⟩
            have HB4 : Hid (Below W3.heap.size W3 W4) := Lib.hid (by subst hW4; exact (below_drewN (Below.refl _ _) nq))
            rw [← hW4]
            clear hW4
            have HMD4 := Lib.hid (HMD3.out.grown HB4.out)
            have HE4 := Lib.hid (HEV3.out.below HB4.out)
            have HM4 := Lib.hid HMD4.out.1
            have HNP : Hid ((xb, xs) ∈ plSet (Q ++ G m)) := Lib.hid (by
              have := (not_congr (HMD4.out.2 (xb, xs))).1 (by rw [HI.out]; simp)
              exact Classical.not_not.1 this)
            have HFN : Hid (∀ W', Mem B W' t ms mb (some ⟨b, o, none⟩) vs.length d (pl (Q ++ G m)) PA pc (lenF (Q ++ G m)) im (fun q => if q = (xb, xs) then nmF (Q ++ G m) q ++ [nm] else nmF (Q ++ G m) q) ((3 * (Q ++ G m).length) + 1) → ∃ im PA pc, Made B W' t ms mb (some ⟨b, o, none⟩) vs.length d (Q ++ G (m + 1)) im PA pc) := Lib.hid (fun W' h => by
              have HPE : pl (Q ++ G m ++ [(nm, ((xb, xs), xl))]) = pl (Q ++ G m) := pl_old HNP.out
              refine ⟨im, PA, pc, ?_, ?_⟩
              · rw [HPX.out, ← List.append_assoc, HPE]
                rw [show lenF (Q ++ G m ++ [(nm, ((xb, xs), xl))]) = lenF (Q ++ G m) from funext (fun q => lenF_old HNP.out q)]
                rw [show nmF (Q ++ G m ++ [(nm, ((xb, xs), xl))]) = fun q => if q = (xb, xs) then nmF (Q ++ G m) q ++ [nm] else nmF (Q ++ G m) q from funext (fun q => nmF_snoc _ _ q)]
                have e : 3 * (Q ++ G m ++ [(nm, ((xb, xs), xl))]).length = (3 * (Q ++ G m).length) + 1 + 2 := by simp; omega
                rw [e]
                exact h.more 2
              · intro q
                rw [HPX.out, ← List.append_assoc]
                rw [show plSet (Q ++ G m ++ [(nm, ((xb, xs), xl))]) = plSet (Q ++ G m) by unfold plSet; rw [HPE]]
                exact HMD4.out.2 q)
            clear ct2 cb0 cb1
            obtain ⟨WZ, hWZ⟩ : ∃ W, W = W4.drew := ⟨_, rfl⟩
            have HBZ : Hid (Below W4.heap.size W4 WZ) := Lib.hid (by subst hWZ; exact below_drew (Below.refl _ _))
            have HWZ := Lib.hid hWZ
            clear hWZ
            have HMZ := Lib.hid (HM4.out.grown HBZ.out)
            have HEZ := Lib.hid (HE4.out.below HBZ.out)
            have hl14 : (Instr.lookup 87 (.map (some mb)) (.agg #[.int .u32 xb, .int .i64 xs]) false).run Tryd.prog WZ = .ok (.map (some a)) WZ := by
              have := HMZ.out.look (p := (xb, xs)) HXO.out.1
              rw [HI.out] at this
              exact this
            have ct2 : WZ.cell? ⟨t, 2, none⟩ = some (.map (some mb)) := cell_of_row WZ t 2 _ 90 (0, 0) HMZ.out.tab
            obtain ⟨cb0, cb1, _, cu0⟩ := HCL.out _ HEZ.out
            have HINN := Lib.hid (HMZ.out.inn (xb, xs) a HI.out)
            have h1w : (Lit.int .i64 1).wf = true := rfl
            go_wp2_with fail
            refine still_at 9 (by kernel_rfl) (by kernel_rfl) HWZ.out ?_
            simp only [List.take_succ_cons, List.take_zero, List.drop_succ_cons, List.drop_zero]
            repeat still_step
            refine wpStill_nil ?_
            go_wp2_with (first | (at_mapUpdate; refine wpList_mapUpdate_own _ rfl _ _ _ 92 rfl 9 3 law9 Tryd.underlying92 _ a (3 * (Q ++ G m).length) _ rfl HINN.out.2 (by simp only [maxLen]; have := HN.out; omega) _ _ _ rfl rfl HKEY.out one [] (plainElem_int Tryd.underlying3 h1w) ?_; intro w9 hown9 hgrow9))
            have HM9 := Lib.hid (HMZ.out.putName HI.out hown9 hgrow9)
            have HE9 : Hid (Env w2 ms B bu bc #[.string (str nm), .slice (some ⟨b2, o2, none⟩) cs.length uc] #[.int .u32 xb, .int .i64 xs, .int .i64 xl] w9) := Lib.hid (HEZ.out.grown hgrow9 (fun q e => by
              cases e
              have hmo := ownsMap_obj HINN.out.2
              exact ⟨cells_ne_map HEZ.out.u hmo, cells_ne_map HEZ.out.c hmo, by have := HINN.out.1; have := HEZ.out.lo; omega⟩))
            clear hown9 hgrow9 hl14 ct2 cb0 cb1 cu0
            go_wp2_with fail
            go_roundg (cs.length - (m + 1))
            case measure => rw [HM.out]; omega
            case rel => exact ⟨m + 1, by omega, rfl, by go_num, HFN.out _ HM9.out, HE9.out.u, HE9.out.low, HE9.out.size⟩
        · obtain rfl : m = cs.length := by omega
          go_wp2_with fail
          go_roundg (vs.length - (k + 1))
          case measure => rw [HK.out]; omega
          case rel => exact ⟨k + 1, by omega, rfl, by go_num, ⟨im, PA, pc, by rw [HPT.out]; exact HMD.out⟩, HBW.out, HBS.out⟩
    · obtain rfl : k = vs.length := by omega
      go_wp2_with fail
      go_ret2
      exact ⟨t, rfl, ⟨B, ms, mb, UA, d, im, PA, pc, by have := HMD.out; rwa [List.take_length] at this, HUS.out _ HBW.out⟩, HFIN.out _ HBW.out⟩
end Go.Proofs.YtkfajeicbkeigaaDoor
