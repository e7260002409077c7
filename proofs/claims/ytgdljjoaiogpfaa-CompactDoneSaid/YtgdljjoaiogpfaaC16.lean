/- The walk over Groups. -/
import Derived.Test.YtgdljjoaiogpfaaC15
namespace Go.Proofs.Ytgdljjoaiogpfaa
open Go.RowKit Go.Maps
attribute [local go_sem] Oper.semAt_some
theorem info30 : (Try.prog.info? 30).map (fun i => (i.zero, i.size, i.bytes)) = some (some (.slice none 0 0), 1, 24) := by kernel_rfl
theorem GR.lower {W : World} {B B' : Nat} {v : Value} {G : List (List Int)} {us : List Value} (h : GR W B v G us) (hb : B' ≤ B) : GR W B' v G us := ⟨row_lower39 h.row hb, fun i u g hu hg => row_lower39 (h.inner i u g hu hg) hb, h.apart⟩
theorem GR.own (n₀ B : Nat) (t : TypeId) (f : List Hd → List (List Int)) : Own (fun (pre : List Hd) W => ∃ v us, Boxed W B t v ∧ GR W n₀ v (f pre) us) := by
  rintro s X Y row ⟨v, us, hv, hG⟩ hg hrow
  refine ⟨v, us, hv.kept hg (fun e' => ?_), hG.kept hg fun r e => ?_⟩
  · obtain ⟨o, ho, hc⟩ := hrow B e'.symm
    rw [show X.heap[B]? = _ from hv] at ho; cases ho; cases hc
  · obtain ⟨o, ho, hc⟩ := hrow r e
    exact Aside.other o ho hc
theorem boxes5 (w : World) (t0 t1 t2 t3 t4 : TypeId) (v0 v1 v2 v3 v4 : Value) {W : World} (hW : ((((w.alloc (.cells #[v0] t0)).alloc (.cells #[v1] t1)).alloc (.cells #[v2] t2)).alloc (.cells #[v3] t3)).alloc (.cells #[v4] t4) = W) :
    Boxed W w.heap.size t0 v0 ∧ Boxed W (w.heap.size + 1) t1 v1 ∧ Boxed W (w.heap.size + 1 + 1) t2 v2 ∧ Boxed W (w.heap.size + 1 + 1 + 1) t3 v3 ∧ Boxed W (w.heap.size + 1 + 1 + 1 + 1) t4 v4 ∧ Below w.heap.size w W ∧ W.heap.size = w.heap.size + 5 := by
  subst hW
  have q1 := Boxed.new (w.alloc (.cells #[v0] t0)) t1 v1
  have q2 := Boxed.new ((w.alloc (.cells #[v0] t0)).alloc (.cells #[v1] t1)) t2 v2
  have q3 := Boxed.new (((w.alloc (.cells #[v0] t0)).alloc (.cells #[v1] t1)).alloc (.cells #[v2] t2)) t3 v3
  have q4 := Boxed.new ((((w.alloc (.cells #[v0] t0)).alloc (.cells #[v1] t1)).alloc (.cells #[v2] t2)).alloc (.cells #[v3] t3)) t4 v4
  simp only [World.size_alloc] at q1 q2 q3 q4
  exact ⟨((((Boxed.new w t0 v0).alloc _).alloc _).alloc _).alloc _, ((q1.alloc _).alloc _).alloc _, (q2.alloc _).alloc _, q3.alloc _, q4, (((((Below.refl _ w).alloc (Nat.le_refl _) _).alloc (by simp) _).alloc (by simp; omega) _).alloc (by simp; omega) _).alloc (by simp; omega) _, by simp⟩
/-- what lies in memory between two rounds of Groups -/
def GInv (w : World) (n1 : Nat) (named : List Plc) (slots bts : Int) (pre : List Hd) (W : World) : Prop :=
  ((∃ v us, Boxed W (w.heap.size + 1 + 1) 26 v ∧ GR W n1 v (gfold named slots bts pre).1 us) ∧ Boxed W w.heap.size 3 (.int .i64 slots) ∧ Boxed W (w.heap.size + 1) 3 (.int .i64 bts) ∧
    Boxed W (w.heap.size + 1 + 1 + 1) 3 (.int .i64 (gfold named slots bts pre).2.1) ∧ Boxed W (w.heap.size + 1 + 1 + 1 + 1) 3 (.int .i64 (gfold named slots bts pre).2.2)) ∧ Below w.heap.size w W
theorem GInv.own (w : World) (n1 : Nat) (hn : w.heap.size ≤ n1) (named : List Plc) (slots bts : Int) : OwnFrom n1 (GInv w n1 named slots bts) :=
  OwnFrom.and (Own.from (fun s A B row hs hg hr => ⟨GR.own n1 _ 26 (fun pre => (gfold named slots bts pre).1) s A B row hs.1 hg hr, boxed_own _ 3 (fun _ => .int .i64 slots) s A B row hs.2.1 hg hr, boxed_own _ 3 (fun _ => .int .i64 bts) s A B row hs.2.2.1 hg hr,
    boxed_own _ 3 (fun pre => .int .i64 (gfold named slots bts pre).2.1) s A B row hs.2.2.2.1 hg hr, boxed_own _ 3 (fun pre => .int .i64 (gfold named slots bts pre).2.2) s A B row hs.2.2.2.2 hg hr⟩) _) (ownFrom_below (Nat.le_refl _) hn)
/-- what a round of Groups has left so far -/
def Rd (w : World) (n1 : Nat) (W V : World) : Prop := KeepsOthers W V ∧ KeepX (Xp w.heap.size (w.heap.size + 5) n1) W V ∧ Below w.heap.size w V ∧ n1 ≤ V.heap.size
theorem Rd.drew {w : World} {n1 : Nat} {W V : World} (h : Rd w n1 W V) : Rd w n1 W V.drew := ⟨h.1.trans (KeepsOthers.drew _), fun q hq => h.2.1 q hq, below_drew h.2.2.1, h.2.2.2⟩
theorem Rd.alloc {w : World} {n1 : Nat} {W V : World} (h : Rd w n1 W V) (hn : w.heap.size + 5 ≤ n1) {cs : Array Value} {t : TypeId} : Rd w n1 W (V.alloc (.cells cs t)) :=
  ⟨h.1.trans (KeepsOthers.alloc _ _), h.2.1.trans (KeepX.grown (World.grownBy_alloc _ _ none) fun q hq => ⟨Nat.lt_of_lt_of_le (xp_lt (by omega) hn hq) h.2.2.2, fun e => (by cases e)⟩), h.2.2.1.alloc h.2.2.1.size _, by have := h.2.2.2; simp; omega⟩
theorem Rd.set {w : World} {n1 : Nat} {W V : World} (h : Rd w n1 W V) (hn : w.heap.size + 5 ≤ n1) {r j : Nat} (h1 : w.heap.size ≤ r) (h2 : r < w.heap.size + 5 ∨ n1 ≤ r) (u : Value) : Rd w n1 W (V.setCell ⟨r, j, none⟩ u) := by
  have hs := grown_set V r j u
  refine ⟨h.1.trans (KeepsOthers.setCell _ _ _), h.2.1.trans (KeepX.grown hs fun q hq => ⟨Nat.lt_of_lt_of_le (xp_lt (by omega) hn hq) h.2.2.2, fun e => ?_⟩), h.2.2.1.setCell (p := ⟨r, j, none⟩) h1 _, Nat.le_trans h.2.2.2 hs.size⟩
  cases e
  have h3 := xp_lt (by omega) hn hq
  rcases hq with hq | hq <;> omega
theorem Rd.grown {w : World} {n1 : Nat} {W V V' : World} (h : Rd w n1 W V) (hn : w.heap.size + 5 ≤ n1) {row : Option Nat} (hg : V.grownBy V' row) (hr : ∀ r, row = some r → n1 ≤ r) (hc : ∀ r o, row = some r → V.heap[r]? = some o → o.isCells = true) : Rd w n1 W V' := by
  refine ⟨h.1.trans (KeepsOthers.of_grownBy hg fun j o ej hj => hc j o ej hj), h.2.1.trans (KeepX.grown hg fun q hq => ⟨Nat.lt_of_lt_of_le (xp_lt (by omega) hn hq) h.2.2.2, fun e => ?_⟩), h.2.2.1.grown hg h.2.2.1.size (fun j e => by have := hr j e; omega), Nat.le_trans h.2.2.2 hg.size⟩
  have h3 := xp_lt (by omega) hn hq
  have := hr q e.symm
  omega
theorem row_cells {w : World} {B k size e : Nat} {v : Value} {xs : List Value} (h : w.ownsRow B e size v k xs) : ∀ r o, v.ownBlock = some r → w.heap[r]? = some o → o.isCells = true := by
  intro r o e1 e2
  rcases h.2 with ⟨rfl, _⟩ | ⟨g, cap, cur, rfl, _, hgb, _⟩
  · cases e1
  · obtain rfl : g = r := by simpa [Value.ownBlock] using e1
    rw [hgb] at e2
    cases e2
    rfl
/-- an append whose run is known -/
theorem op_append_run {P : Program} {w w' : World} {o : Oper} {a : Act} {K : Act → World → Prop} {Q : Exit → Act → World → Prop} (s x : Operand) (t : TypeId) (ho : o.op = .call { callee := .builtin .append, args := #[s, x], argTypes := #[t, t] }) {v y v' : Value} (hs : a.eval s = v) (hx : a.eval x = y)
    (hr : (Builtin.append_ #[t, t] o.type #[v, y]).run P w = .ok v' w') (hK : K (a.put o.dst v') w') : Oper.wp P o a w K Q := by
  unfold Oper.wp execOp
  simp only [ho, resolve, invoke, builtin, Sem.run_bind, Sem.run_pure, Result.andThen_ok, List.map_toArray, List.map_cons, List.map_nil, hs, hx, hr]
  exact hK
theorem if_yes {c : Bool} {A B : Prop} (h : c = true) (hA : A) : if c = true then A else B := by rw [if_pos h]; exact hA
theorem Boxed.setAt {W : World} {B : Nat} {t : TypeId} {v : Value} (h : Boxed W B t v) {g j : Nat} (hne : g ≠ B) (u : Value) : Boxed (W.setCell ⟨g, j, none⟩ u) B t v := Boxed.kept h (grown_set W g j u) (fun e => hne (by injection e with e; exact e.symm))
set_option maxRecDepth 100000 in
set_option maxHeartbeats 16000000 in
theorem groups9 {w : World} {A : Option Addr} {n c : Nat} {hs : List Hd} {B : Option Addr} {m d : Nat} {named : List Plc} (h : InOk w A n hs B m named) (slots bts : Int) :
    Calls Try.prog 9 #[.slice A n c, .slice B m d, .int .i64 slots, .int .i64 bts] w fun e w' => ∃ v us, e = .returned v ∧ Below w.heap.size w w' ∧ GR w' w.heap.size v (gfold named slots bts (okHs hs)).1 us := by
  have HIN := Lib.hid h
  have HLM := Lib.hid (okHs_len h.lim)
  have HOH := Lib.hid (okHs_ok h.lim)
  clear h
  refine (callsIn_wide (n := 9)).1 ?_
  refine callsIn_of_wp_marks Try.func9 rfl trivial ?_ rfl
  simp only [Try.ntmps9, List.size_toArray, List.length_cons, List.length_nil, Nat.reduceAdd, Nat.reduceSub, Array.replicate_succ, Array.replicate_zero, List.push_toArray, List.append_toArray, List.nil_append, List.cons_append]
  gi_wp2_with (refine ⟨trivial, ?_⟩; gi_at_call 29; refine (callsIn_wide.2 (parts_in HIN.out (boxes5 w _ _ _ _ _ _ _ _ _ _ rfl).2.2.2.2.2.1)).mono ?_; rintro e w1 ⟨b1, b2, rfl, hb, hy⟩)
  obtain ⟨W0, hW0⟩ : ∃ W0, (((((w.alloc (.cells #[.int .i64 slots] 3)).alloc (.cells #[.int .i64 bts] 3)).alloc (.cells #[.slice none 0 0] 26)).alloc (.cells #[.int .i64 0] 3)).alloc (.cells #[.int .i64 0] 3)) = W0 := ⟨_, rfl⟩
  rw [hW0] at hb hy
  obtain ⟨x0, x1, x2, x3, x4, hbw0, hs0⟩ := boxes5 w 3 3 26 3 3 _ _ _ _ _ hW0
  rw [hs0] at hy
  have hsz : w.heap.size + 5 ≤ w1.heap.size := by have := hb.size; omega
  have hbw : Below w.heap.size w w1 := hbw0.trans (hb.mono (by omega))
  have up : ∀ {r : Nat} {t : TypeId} {v : Value}, Boxed W0 r t v → Boxed w1 r t v := fun {r t v} hx => (hb.block r hx.lt).trans hx
  have hi0 : GInv w w1.heap.size named slots bts [] w1 := ⟨⟨⟨_, _, up x2, GR.nil _ _⟩, up x0, up x1, up x3, up x4⟩, hbw⟩
  clear up x0 x1 x2 x3 x4 hbw0 hs0 hb hW0
  refine wpIn_rangeE (gf := 35) (lb := #[.pointer (some ⟨b1, 0, none⟩), .pointer (some ⟨b2, 0, none⟩)]) rfl (enters_of Try.func35 (by kernel_rfl) rfl) hy (fun q hq => xp_lt (by omega) hsz hq) (ex_own named)
    (GInv w w1.heap.size named slots bts) (fun _ _ => False) (GInv.own w _ (by omega) named slots bts) (fun _ _ _ _ hf _ _ => hf) hi0 (fun y => .cells y.cells 62)
    (fun b y => { tmps := #[.slice A n c, .slice B m d, .int .i64 slots, .int .i64 bts, undef, undef, .pointer (some ⟨w.heap.size, 0, none⟩), .pointer (some ⟨w.heap.size + 1, 0, none⟩), .slice none 0 0, .pointer (some ⟨w.heap.size + 1 + 1, 0, none⟩), .pointer (some ⟨w.heap.size + 1 + 1 + 1, 0, none⟩), .pointer (some ⟨w.heap.size + 1 + 1 + 1 + 1, 0, none⟩), .pointer (some ⟨b, 0, none⟩), undef, .slice A n c, .slice B m d, .func (.func 35) #[] #[.pointer (some ⟨b1, 0, none⟩), .pointer (some ⟨b2, 0, none⟩)], y.val, undef, undef, undef, undef, undef, undef, undef, undef, undef, undef, undef, undef, undef, undef, undef, undef, undef, undef, undef, undef, undef, undef, undef, undef, undef, undef, undef, undef, undef, undef, undef, undef, undef, undef, undef, undef, undef, undef, undef, undef, undef, undef, undef, undef, undef, undef, undef, undef, undef, undef, undef, undef, undef], defers := [] }) ?assign ?body ?done ?stop
  case assign =>
    intro l y W K hK
    obtain ⟨yh, A1, k1, cc1, A2, k2, cc2, y1, y2⟩ := y
    simp only [PV.val, PV.cells]
    gi_wp2
    exact hK
  case stop =>
    rintro D c' W _ hf _
    exact hf.elim
  case done =>
    rintro D W hD ⟨⟨⟨v, us, hv, hG⟩, hbx⟩, hB⟩ hK
    have hc1 := hv.cell
    have HG := Lib.hid hG
    have HB := Lib.hid hB
    clear hv hG hB hbx
    gi_wp2
    refine ⟨by simp, .inl ⟨_, _, rfl, run_takeDeferred hK, ?_⟩⟩
    refine ⟨_, results_tmp rfl _ _ _, _, us, rfl, HB.out.trans (belowK_b (w := w) (Nat.le_refl _) W D _ _ (by omega) hK rfl rfl), ?_⟩
    exact (HG.out.kept (grownBy_putObj' W D (.deferred none)) (fun r e => by cases e; exact Aside.other _ hK rfl)).lower (by omega)
  case body =>
    rintro l pre x rest y b W hl hxs ⟨⟨⟨v, us, hv, hG⟩, v0, v1, v3, v4⟩, hB⟩ hex hbk hle hwl
    obtain ⟨yh, A1, k1, cc1, A2, k2, cc2, y1, y2⟩ := y
    obtain ⟨rfl, p1, p2, q1e, q2e, z1, z2⟩ := hex
    have hl1 : (part named yh true).length = k1 := p1.len
    have hl2 : (part named yh false).length = k2 := p2.len
    simp only [PV.val, PV.cells] at *
    have HBK := Lib.hid hbk
    have HV := Lib.hid hv
    have HG := Lib.hid hG
    have HB := Lib.hid hB
    have HV0 := Lib.hid v0
    have HV1 := Lib.hid v1
    have HV3 := Lib.hid v3
    have HV4 := Lib.hid v4
    have HLIM := Lib.hid (gfold_lim (named := named) (slots := slots) (bts := bts) (fun t ht => HOH.out t (by rw [hxs]; simp [ht]) : ∀ t ∈ pre, _))
    have HPRE : Hid (pre.length ≤ 1000) := Lib.hid (by have := HLM.out.1; rw [hxs] at this; simp at this; omega)
    have HYB := Lib.hid (bytes_le (named := named) (live := true) (HOH.out yh (by rw [hxs]; simp)).1 (HOH.out yh (by rw [hxs]; simp)).2)
    have HYL : Hid ((part named yh true).length ≤ 1000) := Lib.hid (Nat.le_trans (partTo_len named yh true yh.n) (HOH.out yh (by rw [hxs]; simp)).1)
    have HSN := Lib.hid (gfold_snoc named slots bts pre yh)
    have hsz2 : w1.heap.size ≤ W.heap.size := hwl
    have HQ1 : Hid (y1 = bytes named yh true) := Lib.hid q1e
    clear hv hG hB v0 v1 v3 v4 p1 p2 z1 z2 hbk hxs q2e q1e
    obtain ⟨g0, g1, g2, g3, g4, g5⟩ := xcells (h := yh) (v1 := .slice A1 k1 cc1) (v2 := .slice A2 k2 cc2) (b1 := y1) (b2 := y2) HBK.out
    have HMX := Lib.hid (mixed30 ⟨yh, A1, k1, cc1, A2, k2, cc2, y1, y2⟩ W)
    simp only [PV.val, PV.cells] at HMX
    have HW0 : Hid (Below W.heap.size W (W.alloc (.cells #[.int .u32 yh.id, .slice yh.A yh.n yh.c, .slice A1 k1 cc1, .slice A2 k2 cc2, .int .i64 y1, .int .i64 y2] 62))) := Lib.hid ((Below.refl _ _).alloc (Nat.le_refl _) _)
    by_cases hk0 : (decide (0 < k1) && decide (0 < k2)) = true
    · have HSEL : Hid (isMixed named yh = true) := Lib.hid (by rw [isMixed, hl1, hl2]; exact hk0)
      rw [hk0] at HMX
      have HL1 : Hid ((part named yh true).length = k1) := Lib.hid hl1
      clear hl1 hl2 hk0
      gi_wp2_with ((refine ⟨trivial, ?_⟩; gi_at_call 30; refine (CallsIn.inRound l (callsIn_wide.2 HMX.out)).mono ?_; rintro e wm ⟨rfl, rfl⟩))
      obtain ⟨WM, hWM⟩ : ∃ WM, W.alloc (.cells #[.int .u32 yh.id, .slice yh.A yh.n yh.c, .slice A1 k1 cc1, .slice A2 k2 cc2, .int .i64 y1, .int .i64 y2] 62) = WM := ⟨_, rfl⟩
      rw [hWM] at HW0 ⊢
      have HM : Hid (Below w1.heap.size W WM) := Lib.hid (HW0.out.mono hsz2)
      have HKO : Hid (KeepsOthers W WM) := Lib.hid (hWM ▸ KeepsOthers.alloc _ _)
      have HKX : Hid (KeepX (Xp w.heap.size (w.heap.size + 5) w1.heap.size) W WM) := Lib.hid (KeepX.grown (hWM ▸ World.grownBy_alloc _ _ none) fun q hq => ⟨Nat.lt_of_lt_of_le (xp_lt (by omega) hsz hq) hsz2, fun e => (by cases e)⟩)
      have HBM : Hid (Below w.heap.size w WM) := Lib.hid (HB.out.trans (HW0.out.mono HB.out.size))
      have HSZM : Hid (w1.heap.size ≤ WM.heap.size) := Lib.hid (Nat.le_trans hsz2 HW0.out.size)
      have up : ∀ {r : Nat} {t : TypeId} {v : Value}, Boxed W r t v → Boxed WM r t v := fun {r t v} hx => (HW0.out.block r hx.lt).trans hx
      have HV' := Lib.hid (up HV.out)
      have HV0' := Lib.hid (up HV0.out)
      have HV1' := Lib.hid (up HV1.out)
      have HV3' := Lib.hid (up HV3.out)
      have HV4' := Lib.hid (up HV4.out)
      have HG' := Lib.hid (HG.out.below HW0.out)
      have HBK' : Hid (WM.heap[b]? = some (.cells #[.int .u32 yh.id, .slice yh.A yh.n yh.c, .slice A1 k1 cc1, .slice A2 k2 cc2, .int .i64 y1, .int .i64 y2] 62 (0, 0))) := Lib.hid ((HW0.out.block b (Array.getElem?_eq_some_iff.1 HBK.out).1).trans HBK.out)
      clear up HV HV0 HV1 HV3 HV4 HG HBK HB HW0 hWM HMX
      clear g0 g1 g2 g3 g4 g5
      obtain ⟨st, hst⟩ : ∃ st, gfold named slots bts pre = st := ⟨_, rfl⟩
      rw [hst] at HV3' HV4' HG' HLIM HSN
      clear hst
      obtain ⟨G, s0, b0⟩ := st
      simp only at HV3' HV4' HG' HLIM
      have hws : IntKind.i64.wrap (s0 + (k1 : Int)) = s0 + k1 := IntWalk.i64_in _ (by have := HLIM.out; have := HYL.out; have := HL1.out; have := HPRE.out; omega)
      have hwb : IntKind.i64.wrap (b0 + y1) = b0 + y1 := IntWalk.i64_in _ (by have := HLIM.out; have := HYB.out; have := HQ1.out; have := HPRE.out; omega)
      have hc4 := HV4'.out.cell
      have hc3 := HV3'.out.cell
      have hf3 := HV3'.out.frozen
      have hf4 := HV4'.out.frozen
      obtain ⟨g0, g1, g2, g3, g4, g5⟩ := xcells (h := yh) (v1 := .slice A1 k1 cc1) (v2 := .slice A2 k2 cc2) (b1 := y1) (b2 := y2) HBK'.out
      clear g0 g1 g3 g5
      have hb3 : w.heap.size + 1 + 1 + 1 ≠ b := by omega
      have hb4 : w.heap.size + 1 + 1 + 1 + 1 ≠ b := by omega
      have HS1 : Hid (∀ V : World, V.cell? ⟨b, 2, none⟩ = some (.slice A1 k1 cc1) ∧ V.cell? ⟨b, 4, none⟩ = some (.int .i64 y1) → ∀ u, (V.setCell ⟨w.heap.size + 1 + 1 + 1, 0, none⟩ u).cell? ⟨b, 2, none⟩ = some (.slice A1 k1 cc1) ∧ (V.setCell ⟨w.heap.size + 1 + 1 + 1, 0, none⟩ u).cell? ⟨b, 4, none⟩ = some (.int .i64 y1)) := Lib.hid (fun V hV u => ⟨(World.cell?_setCell_far _ _ _ _ hb3).trans hV.1, (World.cell?_setCell_far _ _ _ _ hb3).trans hV.2⟩)
      have HS2 : Hid (∀ V : World, V.cell? ⟨b, 2, none⟩ = some (.slice A1 k1 cc1) ∧ V.cell? ⟨b, 4, none⟩ = some (.int .i64 y1) → ∀ u, (V.setCell ⟨w.heap.size + 1 + 1 + 1 + 1, 0, none⟩ u).cell? ⟨b, 2, none⟩ = some (.slice A1 k1 cc1) ∧ (V.setCell ⟨w.heap.size + 1 + 1 + 1 + 1, 0, none⟩ u).cell? ⟨b, 4, none⟩ = some (.int .i64 y1)) := Lib.hid (fun V hV u => ⟨(World.cell?_setCell_far _ _ _ _ hb4).trans hV.1, (World.cell?_setCell_far _ _ _ _ hb4).trans hV.2⟩)
      have HV4s := Lib.hid (HV4'.out.other (B' := w.heap.size + 1 + 1 + 1) (by omega) (.int .i64 (s0 + k1)))
      have hc4s := HV4s.out.cell
      have hf4s := HV4s.out.frozen
      clear hb3 hb4
      refine region_via ?_
      apply Exists.intro
      apply Exists.intro
      refine ⟨?_, ?_⟩
      · refine wpIn_region_round (fun wx => wx.cell? ⟨b, 2, none⟩ = some (.slice A1 k1 cc1) ∧ wx.cell? ⟨b, 4, none⟩ = some (.int .i64 y1)) (by kernel_rfl) (by kernel_rfl) (by rintro ⟨_, _, h⟩; exact h) ⟨g2, g4⟩ (fun hSx => ?_)
        refine wpAnyH_take (i := 1) (v := .pointer (some ⟨b, 2, none⟩)) rfl (by kernel_rfl) (by kernel_rfl) (by kernel_rfl) (fun _ _ _ h => h) (Or.inl ⟨by rfl, ?_⟩) hSx ?_
        · intro wx hSx2; obtain ⟨s2, s3⟩ := hSx2; clear hSx; go_simp
        simp only [Act.put, List.setIfInBounds_toArray]
        refine wpAnyH_take (i := 6) (v := .pointer (some ⟨b, 4, none⟩)) rfl (by kernel_rfl) (by kernel_rfl) (by kernel_rfl) (fun _ _ _ h => h) (Or.inl ⟨by rfl, ?_⟩) hSx ?_
        · intro wx hSx2; obtain ⟨s2, s3⟩ := hSx2; clear hSx; go_simp
        simp only [Act.put]
        refine wpAnyH_take (i := 2) (v := .slice A1 k1 cc1) rfl (by kernel_rfl) (by kernel_rfl) (by kernel_rfl) (fun _ _ _ h => h) (Or.inl ⟨by rfl, ?_⟩) hSx ?_
        · intro wx hSx2; obtain ⟨s2, s3⟩ := hSx2; clear hSx; go_simp
        simp only [Act.put]
        refine wpAnyH_take (i := 7) (v := .int .i64 y1) rfl (by kernel_rfl) (by kernel_rfl) (by kernel_rfl) (fun _ _ _ h => h) (Or.inl ⟨by rfl, ?_⟩) hSx ?_
        · intro wx hSx2; obtain ⟨s2, s3⟩ := hSx2; clear hSx; go_simp
        simp only [Act.put]
        refine wpAnyH_take (i := 3) (v := .int .i64 k1) rfl (by kernel_rfl) (by kernel_rfl) (by kernel_rfl) (fun _ _ _ h => h) (Or.inl ⟨by rfl, ?_⟩) hSx ?_
        · intro wx hSx2; obtain ⟨s2, s3⟩ := hSx2; clear hSx; go_simp
        simp only [Act.put]
        refine wpAnyH_ready (rs := [0, 5]) (by kernel_rfl) (by simp) ?_
        refine AllReadyH.cons rfl (fun KK hKK => ?_) (AllReadyH.cons rfl (fun KK hKK => ?_) AllReadyH.nil)

        · go_simp
          refine hKK.out _ _ hSx (fun hSy => ?_)
          clear hKK hSy KK
          refine wpAnyH_take (i := 4) (v := .int .i64 (s0 + k1)) rfl (by kernel_rfl) (by kernel_rfl) (by kernel_rfl) (fun _ _ _ h => h) (Or.inl ⟨by rfl, ?_⟩) hSx ?_
          · intro wx hSx2; obtain ⟨s2, s3⟩ := hSx2; clear hSx; go_simp
          simp only [Act.put, List.setIfInBounds_toArray]
          refine wpAnyH_ready (rs := [5, 9]) (by kernel_rfl) (by simp) ?_
          refine AllReadyH.cons rfl (fun KK hKK => ?_) (AllReadyH.cons rfl (fun KK hKK => ?_) AllReadyH.nil)

          · go_simp
            refine hKK.out _ _ hSx (fun hSy => ?_)
            clear hKK hSy KK
            refine wpAnyH_take (i := 8) (v := .int .i64 (b0 + y1)) rfl (by kernel_rfl) (by kernel_rfl) (by kernel_rfl) (fun _ _ _ h => h) (Or.inl ⟨by rfl, ?_⟩) hSx ?_
            · intro wx hSx2; obtain ⟨s2, s3⟩ := hSx2; clear hSx; go_simp
            simp only [Act.put, List.setIfInBounds_toArray]
            refine wpAnyH_ready (rs := [9]) (by kernel_rfl) (by simp) ?_
            refine AllReadyH.cons rfl (fun KK hKK => ?_) AllReadyH.nil
            go_simp
            refine hKK.out _ _ (HS1.out _ hSx _) (fun hSy => ?_)
            clear hKK hSx
            have hSx := hSy
            clear hSy KK
            refine wpAnyH_ready (rs := [10]) (by kernel_rfl) (by simp) ?_
            refine AllReadyH.cons rfl (fun KK hKK => ?_) AllReadyH.nil
            go_simp
            refine hKK.out _ _ (HS2.out _ hSx _) (fun hSy => ?_)
            clear hKK hSx
            have hSx := hSy
            clear hSy KK
            refine wpAnyH_done (by kernel_rfl) ?_ _
            exact ⟨rfl, rfl⟩

          · go_simp
            refine hKK.out _ _ (HS1.out _ hSx _) (fun hSy => ?_)
            clear hKK hSx
            have hSx := hSy
            clear hSy KK
            refine wpAnyH_ready (rs := [5]) (by kernel_rfl) (by simp) ?_
            refine AllReadyH.cons rfl (fun KK hKK => ?_) AllReadyH.nil
            go_simp
            refine hKK.out _ _ (hSx) (fun hSy => ?_)
            clear hKK hSx
            have hSx := hSy
            clear hSy KK
            refine wpAnyH_take (i := 8) (v := .int .i64 (b0 + y1)) rfl (by kernel_rfl) (by kernel_rfl) (by kernel_rfl) (fun _ _ _ h => h) (Or.inl ⟨by rfl, ?_⟩) hSx ?_
            · intro wx hSx2; obtain ⟨s2, s3⟩ := hSx2; clear hSx; go_simp
            simp only [Act.put, List.setIfInBounds_toArray]
            refine wpAnyH_ready (rs := [10]) (by kernel_rfl) (by simp) ?_
            refine AllReadyH.cons rfl (fun KK hKK => ?_) AllReadyH.nil
            go_simp
            refine hKK.out _ _ (HS2.out _ hSx _) (fun hSy => ?_)
            clear hKK hSx
            have hSx := hSy
            clear hSy KK
            refine wpAnyH_done (by kernel_rfl) ?_ _
            exact ⟨rfl, rfl⟩

        · go_simp
          refine hKK.out _ _ hSx (fun hSy => ?_)
          clear hKK hSy KK
          refine wpAnyH_take (i := 8) (v := .int .i64 (b0 + y1)) rfl (by kernel_rfl) (by kernel_rfl) (by kernel_rfl) (fun _ _ _ h => h) (Or.inl ⟨by rfl, ?_⟩) hSx ?_
          · intro wx hSx2; obtain ⟨s2, s3⟩ := hSx2; clear hSx; go_simp
          simp only [Act.put, List.setIfInBounds_toArray]
          refine wpAnyH_ready (rs := [0]) (by kernel_rfl) (by simp) ?_
          refine AllReadyH.cons rfl (fun KK hKK => ?_) AllReadyH.nil
          go_simp
          refine hKK.out _ _ (hSx) (fun hSy => ?_)
          clear hKK hSx
          have hSx := hSy
          clear hSy KK
          refine wpAnyH_take (i := 4) (v := .int .i64 (s0 + k1)) rfl (by kernel_rfl) (by kernel_rfl) (by kernel_rfl) (fun _ _ _ h => h) (Or.inl ⟨by rfl, ?_⟩) hSx ?_
          · intro wx hSx2; obtain ⟨s2, s3⟩ := hSx2; clear hSx; go_simp
          simp only [Act.put, List.setIfInBounds_toArray]
          refine wpAnyH_ready (rs := [9]) (by kernel_rfl) (by simp) ?_
          refine AllReadyH.cons rfl (fun KK hKK => ?_) AllReadyH.nil
          go_simp
          refine hKK.out _ _ (HS1.out _ hSx _) (fun hSy => ?_)
          clear hKK hSx
          have hSx := hSy
          clear hSy KK
          refine wpAnyH_ready (rs := [10]) (by kernel_rfl) (by simp) ?_
          refine AllReadyH.cons rfl (fun KK hKK => ?_) AllReadyH.nil
          go_simp
          refine hKK.out _ _ (HS2.out _ hSx _) (fun hSy => ?_)
          clear hKK hSx
          have hSx := hSy
          clear hSy KK
          refine wpAnyH_done (by kernel_rfl) ?_ _
          exact ⟨rfl, rfl⟩
      clear hc4s hf4s HV4s g2 g4 hc3 hf3 hc4 hf4 hws hwb
      have HR : Hid (Rd w w1.heap.size W WM) := Lib.hid ⟨HKO.out, HKX.out, HBM.out, HSZM.out⟩
      clear HKO HKX HBM HSZM HM
      obtain ⟨W6, hW6⟩ : ∃ W6, ((WM.setCell ⟨w.heap.size + 1 + 1 + 1, 0, none⟩ (.int .i64 (s0 + k1))).setCell ⟨w.heap.size + 1 + 1 + 1 + 1, 0, none⟩ (.int .i64 (b0 + y1))).drew = W6 := ⟨_, rfl⟩
      rw [hW6]
      have HR6 : Hid (Rd w w1.heap.size W W6) := Lib.hid (hW6 ▸ ((HR.out.set (by omega) (by omega) (by omega) _).set (by omega) (by omega) (by omega) _).drew)
      have up : ∀ {r : Nat} {t : TypeId} {v : Value}, r ≠ w.heap.size + 1 + 1 + 1 → r ≠ w.heap.size + 1 + 1 + 1 + 1 → Boxed WM r t v → Boxed W6 r t v := fun {r t v} h1 h2 hx => hW6 ▸ (hx.other h1 _).other h2 _
      have HV6 := Lib.hid (up (by omega) (by omega) HV'.out)
      have HV06 := Lib.hid (up (by omega) (by omega) HV0'.out)
      have HV16 := Lib.hid (up (by omega) (by omega) HV1'.out)
      have HV36 : Hid (Boxed W6 (w.heap.size + 1 + 1 + 1) 3 (.int .i64 (s0 + k1))) := Lib.hid (hW6 ▸ (HV3'.out.set _).other (by omega) _)
      have HV46 : Hid (Boxed W6 (w.heap.size + 1 + 1 + 1 + 1) 3 (.int .i64 (b0 + y1))) := Lib.hid (hW6 ▸ (HV4'.out.other (by omega) _).set _)
      have HG6 : Hid (GR W6 w1.heap.size v G us) := Lib.hid (hW6 ▸ ((HG'.out.kept (grown_set _ _ _ _) (fun r e => by cases e; exact Aside.box HV3'.out (by decide) (by decide))).kept (grown_set _ _ _ _) (fun r e => by cases e; exact Aside.box (HV4'.out.other (by omega) _) (by decide) (by decide))).drew)
      have HX6 : Hid (W6.heap[b]? = some (.cells #[.int .u32 yh.id, .slice yh.A yh.n yh.c, .slice A1 k1 cc1, .slice A2 k2 cc2, .int .i64 y1, .int .i64 y2] 62 (0, 0))) := Lib.hid (hW6 ▸ (Below.heap_setCell _ _ _ _ (by show b ≠ w.heap.size + 1 + 1 + 1 + 1; omega)).trans ((Below.heap_setCell _ _ _ _ (by show b ≠ w.heap.size + 1 + 1 + 1; omega)).trans HBK'.out))
      clear up hW6 HV' HV0' HV1' HV3' HV4' HG' HBK' HR
      obtain ⟨A0, c0, hv⟩ := own_slice HG6.out.row
      subst hv
      have hc2 := HV6.out.cell
      have hf2 := HV6.out.frozen
      have hc0 := HV06.out.cell
      have hc1 := HV16.out.cell
      have hc3 := HV36.out.cell
      have hc4 := HV46.out.cell
      have HCASE : (G = [] ∨ (G ≠ [] ∧ ¬ s0 + (k1 : Int) ≤ slots) ∨ (G ≠ [] ∧ s0 + (k1 : Int) ≤ slots ∧ ¬ b0 + y1 ≤ bts)) ∨ (G ≠ [] ∧ s0 + (k1 : Int) ≤ slots ∧ b0 + y1 ≤ bts) := by
        by_cases h1 : G = []
        · exact .inl (.inl h1)
        · by_cases h2 : s0 + (k1 : Int) ≤ slots
          · by_cases h3 : b0 + y1 ≤ bts
            · exact .inr ⟨h1, h2, h3⟩
            · exact .inl (.inr (.inr ⟨h1, h2, h3⟩))
          · exact .inl (.inr (.inl ⟨h1, h2⟩))
      rcases HCASE with hno | ⟨hG0, hs0, hb0⟩
      · have HNEW : Hid (gstep named slots bts (G, s0, b0) yh = (G ++ [[yh.id]], (k1 : Int), y1)) := Lib.hid (by
          have hq1 := HQ1.out
          have hq2 := HL1.out
          rw [gstep_new HSEL.out (by rw [← hq1, hq2]; rintro ⟨q0, q1, q2⟩; rcases hno with h | ⟨_, h'⟩ | ⟨_, _, h''⟩ <;> first | exact q0 h | exact h' q1 | exact h'' q2), ← hq1, hq2])
        have HGL : Hid (G.length ≤ 1000) := Lib.hid (Nat.le_trans HLIM.out.1 HPRE.out)
        have hno2 : ¬ 0 < G.length ∨ (0 < G.length ∧ ¬ s0 + (k1 : Int) ≤ slots) ∨ (0 < G.length ∧ s0 + (k1 : Int) ≤ slots ∧ ¬ b0 + y1 ≤ bts) := by
          rcases hno with h | ⟨h, h'⟩ | ⟨h, h', h''⟩
          · exact .inl (by rw [h]; simp)
          · exact .inr (.inl ⟨List.length_pos_iff.2 h, h'⟩)
          · exact .inr (.inr ⟨List.length_pos_iff.2 h, h', h''⟩)
        clear hno
        obtain ⟨gn, hgn⟩ : ∃ gn, G.length = gn := ⟨_, rfl⟩
        have HROW : Hid (W6.ownsRow w1.heap.size 30 1 (.slice A0 gn c0) gn us) := Lib.hid (by have := HG6.out.row; rw [hgn] at this; exact this)
        have HGN := Lib.hid hgn
        rw [hgn] at hc2 hno2 HGL
        clear hgn
        obtain ⟨i0, hi, hz0, hz1, hz2⟩ := info_parts info30
        obtain ⟨g0, g1, g2, g3, g4, g5⟩ := xcells (h := yh) (v1 := .slice A1 k1 cc1) (v2 := .slice A2 k2 cc2) (b1 := y1) (b2 := y2) HX6.out
        clear g1 g2 g3 g4 g5
        rcases hno2 with h | ⟨h, h'⟩ | ⟨h, h', h''⟩
        · have hpos : ¬ (0 : Int) < (gn : Int) := by omega
          gi_wp2_with (first | (gi_at_builtin; refine wpListIn_append_own _ rfl (.tmp 58) (.tmp 63) _ rfl w1.heap.size 30 i0 _ 1 24 Try.underlying26 hi hz0 hz1 hz2 rfl (by decide) _ _ _ rfl ((HROW.out.alloc _).alloc _) _ 1 1 [.slice (some ⟨W6.heap.size, 0, none⟩) 1 1] rfl rfl (new1 _ _ _ _ (by simp)) (by simp [Value.oneCell']) (by have := HGL.out; simp only [maxLen]; omega) (by have := HGL.out; omega) (by have := HR6.out.2.2.2; simp; omega) ?_))
          intro v' w2 hown' hgrow _
          have HLW : Hid (Below W6.heap.size W6 ((W6.alloc (.cells #[.int .u32 yh.id] 33)).alloc (.cells #[.slice (some ⟨W6.heap.size, 0, none⟩) 1 1] 30))) := Lib.hid (((Below.refl _ W6).alloc (Nat.le_refl _) _).alloc (by simp) _)
          have HP : Hid (GR w2 w1.heap.size v' (G ++ [[yh.id]]) (us ++ [.slice (some ⟨W6.heap.size, 0, none⟩) 1 1])) := Lib.hid (HG6.out.push HLW.out ((heap_alloc_old _ _ (by simp)).trans (heap_alloc_new W6 _)) (Nat.le_refl _) HR6.out.2.2.2 (by rw [HGN.out]; exact hown') (by rw [HGN.out]; exact hgrow))
          have HR10 : Hid (Rd w w1.heap.size W w2) := Lib.hid (((HR6.out.alloc (by omega)).alloc (by omega)).grown (by omega) hgrow (fun r e => (HROW.out.lt r e).1) (row_cells ((HROW.out.alloc _).alloc _)))
          have up : ∀ {r : Nat} {t : TypeId} {v : Value}, t ≠ 30 → Boxed W6 r t v → Boxed w2 r t v := fun {r t v} ht hx => Boxed.kept (show Boxed _ _ _ _ from (HLW.out.block _ hx.lt).trans hx) hgrow (hx.not_row ht HROW.out)
          have HV10 := Lib.hid (up (by decide) HV6.out)
          have HV010 := Lib.hid (up (by decide) HV06.out)
          have HV110 := Lib.hid (up (by decide) HV16.out)
          have HV310 := Lib.hid (up (by decide) HV36.out)
          have HV410 := Lib.hid (up (by decide) HV46.out)
          have HX10 : Hid (w2.heap[b]? = some (.cells #[.int .u32 yh.id, .slice yh.A yh.n yh.c, .slice A1 k1 cc1, .slice A2 k2 cc2, .int .i64 y1, .int .i64 y2] 62 (0, 0))) := Lib.hid ((hgrow.block b (Nat.lt_of_lt_of_le (Array.getElem?_eq_some_iff.1 HX6.out).1 HLW.out.size) (fun e => (row_ne HROW.out (fun cs e2 => by rw [HX6.out] at e2; cases e2)) e.symm)).trans ((HLW.out.block b (Array.getElem?_eq_some_iff.1 HX6.out).1).trans HX6.out))
          obtain ⟨A3, ac3, hv3⟩ := own_slice hown'
          subst hv3
          clear up hown' hgrow hc0 hc1 hc3 hc4 g0 HLW HV6 HV06 HV16 HV36 HV46 HG6 HR6 HX6 hc2 hf2
          have hc2 := HV10.out.cell
          have hf2 := HV10.out.frozen
          gi_wp2
          clear hc2 hf2
          obtain ⟨W11, hW11⟩ : ∃ W11, w2.setCell ⟨w.heap.size + 1 + 1, 0, none⟩ (.slice A3 (gn + 1) ac3) = W11 := ⟨_, rfl⟩
          rw [hW11]
          have HX11 : Hid (W11.heap[b]? = some (.cells #[.int .u32 yh.id, .slice yh.A yh.n yh.c, .slice A1 k1 cc1, .slice A2 k2 cc2, .int .i64 y1, .int .i64 y2] 62 (0, 0))) := Lib.hid (hW11 ▸ (Below.heap_setCell _ _ _ _ (by show b ≠ w.heap.size + 1 + 1; omega)).trans HX10.out)
          have HV11 : Hid (Boxed W11 (w.heap.size + 1 + 1) 26 (.slice A3 (gn + 1) ac3)) := Lib.hid (hW11 ▸ HV10.out.set _)
          have HV011 : Hid (Boxed W11 (w.heap.size) 3 (.int .i64 slots)) := Lib.hid (hW11 ▸ HV010.out.other (by omega) _)
          have HV111 : Hid (Boxed W11 (w.heap.size + 1) 3 (.int .i64 bts)) := Lib.hid (hW11 ▸ HV110.out.other (by omega) _)
          have HV311 : Hid (Boxed W11 (w.heap.size + 1 + 1 + 1) 3 (.int .i64 (s0 + k1))) := Lib.hid (hW11 ▸ HV310.out.other (by omega) _)
          have HV411 : Hid (Boxed W11 (w.heap.size + 1 + 1 + 1 + 1) 3 (.int .i64 (b0 + y1))) := Lib.hid (hW11 ▸ HV410.out.other (by omega) _)
          have HP11 := Lib.hid (hW11 ▸ HP.out.kept (grown_set _ _ _ _) (fun r e => by cases e; exact Aside.box HV10.out (by decide) (by decide)))
          have HR11 : Hid (Rd w w1.heap.size W W11) := Lib.hid (hW11 ▸ HR10.out.set (by omega) (by omega) (by omega) _)
          clear hW11 HV10 HV010 HV110 HV310 HV410 HP HR10 HX10
          have hf3 := HV311.out.frozen
          have hc3 := HV311.out.cell
          have hc4 := (HV411.out.other (B' := w.heap.size + 1 + 1 + 1) (by omega) (.int .i64 k1)).cell
          have hf4 := (HV411.out.other (B' := w.heap.size + 1 + 1 + 1) (by omega) (.int .i64 k1)).frozen
          obtain ⟨g0, g1, g2, g3, g4, g5⟩ := xcells (h := yh) (v1 := .slice A1 k1 cc1) (v2 := .slice A2 k2 cc2) (b1 := y1) (b2 := y2) HX11.out
          clear g0 g1 g3 g5
          refine region_via ?_
          apply Exists.intro
          apply Exists.intro
          refine ⟨?_, ?_⟩
          · refine wpIn_region_round (fun wx => wx.cell? ⟨b, 2, none⟩ = some (.slice A1 k1 cc1) ∧ wx.cell? ⟨b, 4, none⟩ = some (.int .i64 y1)) (by kernel_rfl) (by kernel_rfl) (by rintro ⟨_, _, h⟩; exact h) ⟨g2, g4⟩ (fun hSx => ?_)
            refine wpAnyH_take (i := 0) (v := .pointer (some ⟨b, 2, none⟩)) rfl (by kernel_rfl) (by kernel_rfl) (by kernel_rfl) (fun _ _ _ h => h) (Or.inl ⟨by rfl, ?_⟩) hSx ?_
            · intro wx hSx2; obtain ⟨s2, s3⟩ := hSx2; clear hSx; go_simp
            simp only [Act.put, List.setIfInBounds_toArray]
            refine wpAnyH_take (i := 3) (v := .pointer (some ⟨b, 4, none⟩)) rfl (by kernel_rfl) (by kernel_rfl) (by kernel_rfl) (fun _ _ _ h => h) (Or.inl ⟨by rfl, ?_⟩) hSx ?_
            · intro wx hSx2; obtain ⟨s2, s3⟩ := hSx2; clear hSx; go_simp
            simp only [Act.put]
            refine wpAnyH_take (i := 1) (v := .slice A1 k1 cc1) rfl (by kernel_rfl) (by kernel_rfl) (by kernel_rfl) (fun _ _ _ h => h) (Or.inl ⟨by rfl, ?_⟩) hSx ?_
            · intro wx hSx2; obtain ⟨s2, s3⟩ := hSx2; clear hSx; go_simp
            simp only [Act.put]
            refine wpAnyH_take (i := 4) (v := .int .i64 y1) rfl (by kernel_rfl) (by kernel_rfl) (by kernel_rfl) (fun _ _ _ h => h) (Or.inl ⟨by rfl, ?_⟩) hSx ?_
            · intro wx hSx2; obtain ⟨s2, s3⟩ := hSx2; clear hSx; go_simp
            simp only [Act.put]
            refine wpAnyH_take (i := 2) (v := .int .i64 k1) rfl (by kernel_rfl) (by kernel_rfl) (by kernel_rfl) (fun _ _ _ h => h) (Or.inl ⟨by rfl, ?_⟩) hSx ?_
            · intro wx hSx2; obtain ⟨s2, s3⟩ := hSx2; clear hSx; go_simp
            simp only [Act.put]
            refine wpAnyH_ready (rs := [5]) (by kernel_rfl) (by simp) ?_
            refine AllReadyH.cons rfl (fun KK hKK => ?_) AllReadyH.nil
            go_simp
            refine hKK.out _ _ (HS1.out _ hSx _) (fun hSy => ?_)
            clear hKK hSx
            have hSx := hSy
            clear hSy KK
            refine wpAnyH_ready (rs := [6]) (by kernel_rfl) (by simp) ?_
            refine AllReadyH.cons rfl (fun KK hKK => ?_) AllReadyH.nil
            go_simp
            refine hKK.out _ _ (HS2.out _ hSx _) (fun hSy => ?_)
            clear hKK hSx
            have hSx := hSy
            clear hSy KK
            refine wpAnyH_done (by kernel_rfl) ?_ _
            exact ⟨rfl, rfl⟩
          gi_wp2
          have hR := (((HR11.out.set (r := w.heap.size + 1 + 1 + 1) (j := 0) (by omega) (by omega) (by omega) (.int .i64 k1)).set (r := w.heap.size + 1 + 1 + 1 + 1) (j := 0) (by omega) (by omega) (by omega) (.int .i64 y1)).drew)
          refine ⟨hR.1.from _, hR.2.1, ?_⟩
          unfold GInv
          rw [HSN.out, HNEW.out]
          have k1' : ∀ {r : Nat} {t : TypeId} {v : Value}, r ≠ w.heap.size + 1 + 1 + 1 → r ≠ w.heap.size + 1 + 1 + 1 + 1 → Boxed W11 r t v → Boxed (((W11.setCell ⟨w.heap.size + 1 + 1 + 1, 0, none⟩ (.int .i64 k1)).setCell ⟨w.heap.size + 1 + 1 + 1 + 1, 0, none⟩ (.int .i64 y1)).drew) r t v := fun {r t v} h1 h2 hx => (hx.other h1 _).other h2 _
          refine ⟨⟨⟨.slice A3 (gn + 1) ac3, us ++ [.slice (some ⟨W6.heap.size, 0, none⟩) 1 1], k1' (by omega) (by omega) HV11.out, ?_⟩, k1' (by omega) (by omega) HV011.out, k1' (by omega) (by omega) HV111.out, (HV311.out.set _).other (by omega) _, (HV411.out.other (by omega) _).set _⟩, hR.2.2.1⟩
          exact ((HP11.out.kept (grown_set _ _ _ _) (fun r e => by cases e; exact Aside.box HV311.out (by decide) (by decide))).kept (grown_set _ _ _ _) (fun r e => by cases e; exact Aside.box (HV411.out.other (by omega) _) (by decide) (by decide))).drew
        · have hpos : (0 : Int) < (gn : Int) := by omega
          gi_wp2_with (first | (gi_at_builtin; refine wpListIn_append_own _ rfl (.tmp 58) (.tmp 63) _ rfl w1.heap.size 30 i0 _ 1 24 Try.underlying26 hi hz0 hz1 hz2 rfl (by decide) _ _ _ rfl ((HROW.out.alloc _).alloc _) _ 1 1 [.slice (some ⟨W6.heap.size, 0, none⟩) 1 1] rfl rfl (new1 _ _ _ _ (by simp)) (by simp [Value.oneCell']) (by have := HGL.out; simp only [maxLen]; omega) (by have := HGL.out; omega) (by have := HR6.out.2.2.2; simp; omega) ?_))
          intro v' w2 hown' hgrow _
          have HLW : Hid (Below W6.heap.size W6 ((W6.alloc (.cells #[.int .u32 yh.id] 33)).alloc (.cells #[.slice (some ⟨W6.heap.size, 0, none⟩) 1 1] 30))) := Lib.hid (((Below.refl _ W6).alloc (Nat.le_refl _) _).alloc (by simp) _)
          have HP : Hid (GR w2 w1.heap.size v' (G ++ [[yh.id]]) (us ++ [.slice (some ⟨W6.heap.size, 0, none⟩) 1 1])) := Lib.hid (HG6.out.push HLW.out ((heap_alloc_old _ _ (by simp)).trans (heap_alloc_new W6 _)) (Nat.le_refl _) HR6.out.2.2.2 (by rw [HGN.out]; exact hown') (by rw [HGN.out]; exact hgrow))
          have HR10 : Hid (Rd w w1.heap.size W w2) := Lib.hid (((HR6.out.alloc (by omega)).alloc (by omega)).grown (by omega) hgrow (fun r e => (HROW.out.lt r e).1) (row_cells ((HROW.out.alloc _).alloc _)))
          have up : ∀ {r : Nat} {t : TypeId} {v : Value}, t ≠ 30 → Boxed W6 r t v → Boxed w2 r t v := fun {r t v} ht hx => Boxed.kept (show Boxed _ _ _ _ from (HLW.out.block _ hx.lt).trans hx) hgrow (hx.not_row ht HROW.out)
          have HV10 := Lib.hid (up (by decide) HV6.out)
          have HV010 := Lib.hid (up (by decide) HV06.out)
          have HV110 := Lib.hid (up (by decide) HV16.out)
          have HV310 := Lib.hid (up (by decide) HV36.out)
          have HV410 := Lib.hid (up (by decide) HV46.out)
          have HX10 : Hid (w2.heap[b]? = some (.cells #[.int .u32 yh.id, .slice yh.A yh.n yh.c, .slice A1 k1 cc1, .slice A2 k2 cc2, .int .i64 y1, .int .i64 y2] 62 (0, 0))) := Lib.hid ((hgrow.block b (Nat.lt_of_lt_of_le (Array.getElem?_eq_some_iff.1 HX6.out).1 HLW.out.size) (fun e => (row_ne HROW.out (fun cs e2 => by rw [HX6.out] at e2; cases e2)) e.symm)).trans ((HLW.out.block b (Array.getElem?_eq_some_iff.1 HX6.out).1).trans HX6.out))
          obtain ⟨A3, ac3, hv3⟩ := own_slice hown'
          subst hv3
          clear up hown' hgrow hc0 hc1 hc3 hc4 g0 HLW HV6 HV06 HV16 HV36 HV46 HG6 HR6 HX6 hc2 hf2
          have hc2 := HV10.out.cell
          have hf2 := HV10.out.frozen
          gi_wp2
          clear hc2 hf2
          obtain ⟨W11, hW11⟩ : ∃ W11, w2.setCell ⟨w.heap.size + 1 + 1, 0, none⟩ (.slice A3 (gn + 1) ac3) = W11 := ⟨_, rfl⟩
          rw [hW11]
          have HX11 : Hid (W11.heap[b]? = some (.cells #[.int .u32 yh.id, .slice yh.A yh.n yh.c, .slice A1 k1 cc1, .slice A2 k2 cc2, .int .i64 y1, .int .i64 y2] 62 (0, 0))) := Lib.hid (hW11 ▸ (Below.heap_setCell _ _ _ _ (by show b ≠ w.heap.size + 1 + 1; omega)).trans HX10.out)
          have HV11 : Hid (Boxed W11 (w.heap.size + 1 + 1) 26 (.slice A3 (gn + 1) ac3)) := Lib.hid (hW11 ▸ HV10.out.set _)
          have HV011 : Hid (Boxed W11 (w.heap.size) 3 (.int .i64 slots)) := Lib.hid (hW11 ▸ HV010.out.other (by omega) _)
          have HV111 : Hid (Boxed W11 (w.heap.size + 1) 3 (.int .i64 bts)) := Lib.hid (hW11 ▸ HV110.out.other (by omega) _)
          have HV311 : Hid (Boxed W11 (w.heap.size + 1 + 1 + 1) 3 (.int .i64 (s0 + k1))) := Lib.hid (hW11 ▸ HV310.out.other (by omega) _)
          have HV411 : Hid (Boxed W11 (w.heap.size + 1 + 1 + 1 + 1) 3 (.int .i64 (b0 + y1))) := Lib.hid (hW11 ▸ HV410.out.other (by omega) _)
          have HP11 := Lib.hid (hW11 ▸ HP.out.kept (grown_set _ _ _ _) (fun r e => by cases e; exact Aside.box HV10.out (by decide) (by decide)))
          have HR11 : Hid (Rd w w1.heap.size W W11) := Lib.hid (hW11 ▸ HR10.out.set (by omega) (by omega) (by omega) _)
          clear hW11 HV10 HV010 HV110 HV310 HV410 HP HR10 HX10
          have hf3 := HV311.out.frozen
          have hc3 := HV311.out.cell
          have hc4 := (HV411.out.other (B' := w.heap.size + 1 + 1 + 1) (by omega) (.int .i64 k1)).cell
          have hf4 := (HV411.out.other (B' := w.heap.size + 1 + 1 + 1) (by omega) (.int .i64 k1)).frozen
          obtain ⟨g0, g1, g2, g3, g4, g5⟩ := xcells (h := yh) (v1 := .slice A1 k1 cc1) (v2 := .slice A2 k2 cc2) (b1 := y1) (b2 := y2) HX11.out
          clear g0 g1 g3 g5
          refine region_via ?_
          apply Exists.intro
          apply Exists.intro
          refine ⟨?_, ?_⟩
          · refine wpIn_region_round (fun wx => wx.cell? ⟨b, 2, none⟩ = some (.slice A1 k1 cc1) ∧ wx.cell? ⟨b, 4, none⟩ = some (.int .i64 y1)) (by kernel_rfl) (by kernel_rfl) (by rintro ⟨_, _, h⟩; exact h) ⟨g2, g4⟩ (fun hSx => ?_)
            refine wpAnyH_take (i := 0) (v := .pointer (some ⟨b, 2, none⟩)) rfl (by kernel_rfl) (by kernel_rfl) (by kernel_rfl) (fun _ _ _ h => h) (Or.inl ⟨by rfl, ?_⟩) hSx ?_
            · intro wx hSx2; obtain ⟨s2, s3⟩ := hSx2; clear hSx; go_simp
            simp only [Act.put, List.setIfInBounds_toArray]
            refine wpAnyH_take (i := 3) (v := .pointer (some ⟨b, 4, none⟩)) rfl (by kernel_rfl) (by kernel_rfl) (by kernel_rfl) (fun _ _ _ h => h) (Or.inl ⟨by rfl, ?_⟩) hSx ?_
            · intro wx hSx2; obtain ⟨s2, s3⟩ := hSx2; clear hSx; go_simp
            simp only [Act.put]
            refine wpAnyH_take (i := 1) (v := .slice A1 k1 cc1) rfl (by kernel_rfl) (by kernel_rfl) (by kernel_rfl) (fun _ _ _ h => h) (Or.inl ⟨by rfl, ?_⟩) hSx ?_
            · intro wx hSx2; obtain ⟨s2, s3⟩ := hSx2; clear hSx; go_simp
            simp only [Act.put]
            refine wpAnyH_take (i := 4) (v := .int .i64 y1) rfl (by kernel_rfl) (by kernel_rfl) (by kernel_rfl) (fun _ _ _ h => h) (Or.inl ⟨by rfl, ?_⟩) hSx ?_
            · intro wx hSx2; obtain ⟨s2, s3⟩ := hSx2; clear hSx; go_simp
            simp only [Act.put]
            refine wpAnyH_take (i := 2) (v := .int .i64 k1) rfl (by kernel_rfl) (by kernel_rfl) (by kernel_rfl) (fun _ _ _ h => h) (Or.inl ⟨by rfl, ?_⟩) hSx ?_
            · intro wx hSx2; obtain ⟨s2, s3⟩ := hSx2; clear hSx; go_simp
            simp only [Act.put]
            refine wpAnyH_ready (rs := [5]) (by kernel_rfl) (by simp) ?_
            refine AllReadyH.cons rfl (fun KK hKK => ?_) AllReadyH.nil
            go_simp
            refine hKK.out _ _ (HS1.out _ hSx _) (fun hSy => ?_)
            clear hKK hSx
            have hSx := hSy
            clear hSy KK
            refine wpAnyH_ready (rs := [6]) (by kernel_rfl) (by simp) ?_
            refine AllReadyH.cons rfl (fun KK hKK => ?_) AllReadyH.nil
            go_simp
            refine hKK.out _ _ (HS2.out _ hSx _) (fun hSy => ?_)
            clear hKK hSx
            have hSx := hSy
            clear hSy KK
            refine wpAnyH_done (by kernel_rfl) ?_ _
            exact ⟨rfl, rfl⟩
          gi_wp2
          have hR := (((HR11.out.set (r := w.heap.size + 1 + 1 + 1) (j := 0) (by omega) (by omega) (by omega) (.int .i64 k1)).set (r := w.heap.size + 1 + 1 + 1 + 1) (j := 0) (by omega) (by omega) (by omega) (.int .i64 y1)).drew)
          refine ⟨hR.1.from _, hR.2.1, ?_⟩
          unfold GInv
          rw [HSN.out, HNEW.out]
          have k1' : ∀ {r : Nat} {t : TypeId} {v : Value}, r ≠ w.heap.size + 1 + 1 + 1 → r ≠ w.heap.size + 1 + 1 + 1 + 1 → Boxed W11 r t v → Boxed (((W11.setCell ⟨w.heap.size + 1 + 1 + 1, 0, none⟩ (.int .i64 k1)).setCell ⟨w.heap.size + 1 + 1 + 1 + 1, 0, none⟩ (.int .i64 y1)).drew) r t v := fun {r t v} h1 h2 hx => (hx.other h1 _).other h2 _
          refine ⟨⟨⟨.slice A3 (gn + 1) ac3, us ++ [.slice (some ⟨W6.heap.size, 0, none⟩) 1 1], k1' (by omega) (by omega) HV11.out, ?_⟩, k1' (by omega) (by omega) HV011.out, k1' (by omega) (by omega) HV111.out, (HV311.out.set _).other (by omega) _, (HV411.out.other (by omega) _).set _⟩, hR.2.2.1⟩
          exact ((HP11.out.kept (grown_set _ _ _ _) (fun r e => by cases e; exact Aside.box HV311.out (by decide) (by decide))).kept (grown_set _ _ _ _) (fun r e => by cases e; exact Aside.box (HV411.out.other (by omega) _) (by decide) (by decide))).drew
        · have hpos : (0 : Int) < (gn : Int) := by omega
          gi_wp2_with (first | (gi_at_builtin; refine wpListIn_append_own _ rfl (.tmp 58) (.tmp 63) _ rfl w1.heap.size 30 i0 _ 1 24 Try.underlying26 hi hz0 hz1 hz2 rfl (by decide) _ _ _ rfl ((HROW.out.alloc _).alloc _) _ 1 1 [.slice (some ⟨W6.heap.size, 0, none⟩) 1 1] rfl rfl (new1 _ _ _ _ (by simp)) (by simp [Value.oneCell']) (by have := HGL.out; simp only [maxLen]; omega) (by have := HGL.out; omega) (by have := HR6.out.2.2.2; simp; omega) ?_))
          intro v' w2 hown' hgrow _
          have HLW : Hid (Below W6.heap.size W6 ((W6.alloc (.cells #[.int .u32 yh.id] 33)).alloc (.cells #[.slice (some ⟨W6.heap.size, 0, none⟩) 1 1] 30))) := Lib.hid (((Below.refl _ W6).alloc (Nat.le_refl _) _).alloc (by simp) _)
          have HP : Hid (GR w2 w1.heap.size v' (G ++ [[yh.id]]) (us ++ [.slice (some ⟨W6.heap.size, 0, none⟩) 1 1])) := Lib.hid (HG6.out.push HLW.out ((heap_alloc_old _ _ (by simp)).trans (heap_alloc_new W6 _)) (Nat.le_refl _) HR6.out.2.2.2 (by rw [HGN.out]; exact hown') (by rw [HGN.out]; exact hgrow))
          have HR10 : Hid (Rd w w1.heap.size W w2) := Lib.hid (((HR6.out.alloc (by omega)).alloc (by omega)).grown (by omega) hgrow (fun r e => (HROW.out.lt r e).1) (row_cells ((HROW.out.alloc _).alloc _)))
          have up : ∀ {r : Nat} {t : TypeId} {v : Value}, t ≠ 30 → Boxed W6 r t v → Boxed w2 r t v := fun {r t v} ht hx => Boxed.kept (show Boxed _ _ _ _ from (HLW.out.block _ hx.lt).trans hx) hgrow (hx.not_row ht HROW.out)
          have HV10 := Lib.hid (up (by decide) HV6.out)
          have HV010 := Lib.hid (up (by decide) HV06.out)
          have HV110 := Lib.hid (up (by decide) HV16.out)
          have HV310 := Lib.hid (up (by decide) HV36.out)
          have HV410 := Lib.hid (up (by decide) HV46.out)
          have HX10 : Hid (w2.heap[b]? = some (.cells #[.int .u32 yh.id, .slice yh.A yh.n yh.c, .slice A1 k1 cc1, .slice A2 k2 cc2, .int .i64 y1, .int .i64 y2] 62 (0, 0))) := Lib.hid ((hgrow.block b (Nat.lt_of_lt_of_le (Array.getElem?_eq_some_iff.1 HX6.out).1 HLW.out.size) (fun e => (row_ne HROW.out (fun cs e2 => by rw [HX6.out] at e2; cases e2)) e.symm)).trans ((HLW.out.block b (Array.getElem?_eq_some_iff.1 HX6.out).1).trans HX6.out))
          obtain ⟨A3, ac3, hv3⟩ := own_slice hown'
          subst hv3
          clear up hown' hgrow hc0 hc1 hc3 hc4 g0 HLW HV6 HV06 HV16 HV36 HV46 HG6 HR6 HX6 hc2 hf2
          have hc2 := HV10.out.cell
          have hf2 := HV10.out.frozen
          gi_wp2
          clear hc2 hf2
          obtain ⟨W11, hW11⟩ : ∃ W11, w2.setCell ⟨w.heap.size + 1 + 1, 0, none⟩ (.slice A3 (gn + 1) ac3) = W11 := ⟨_, rfl⟩
          rw [hW11]
          have HX11 : Hid (W11.heap[b]? = some (.cells #[.int .u32 yh.id, .slice yh.A yh.n yh.c, .slice A1 k1 cc1, .slice A2 k2 cc2, .int .i64 y1, .int .i64 y2] 62 (0, 0))) := Lib.hid (hW11 ▸ (Below.heap_setCell _ _ _ _ (by show b ≠ w.heap.size + 1 + 1; omega)).trans HX10.out)
          have HV11 : Hid (Boxed W11 (w.heap.size + 1 + 1) 26 (.slice A3 (gn + 1) ac3)) := Lib.hid (hW11 ▸ HV10.out.set _)
          have HV011 : Hid (Boxed W11 (w.heap.size) 3 (.int .i64 slots)) := Lib.hid (hW11 ▸ HV010.out.other (by omega) _)
          have HV111 : Hid (Boxed W11 (w.heap.size + 1) 3 (.int .i64 bts)) := Lib.hid (hW11 ▸ HV110.out.other (by omega) _)
          have HV311 : Hid (Boxed W11 (w.heap.size + 1 + 1 + 1) 3 (.int .i64 (s0 + k1))) := Lib.hid (hW11 ▸ HV310.out.other (by omega) _)
          have HV411 : Hid (Boxed W11 (w.heap.size + 1 + 1 + 1 + 1) 3 (.int .i64 (b0 + y1))) := Lib.hid (hW11 ▸ HV410.out.other (by omega) _)
          have HP11 := Lib.hid (hW11 ▸ HP.out.kept (grown_set _ _ _ _) (fun r e => by cases e; exact Aside.box HV10.out (by decide) (by decide)))
          have HR11 : Hid (Rd w w1.heap.size W W11) := Lib.hid (hW11 ▸ HR10.out.set (by omega) (by omega) (by omega) _)
          clear hW11 HV10 HV010 HV110 HV310 HV410 HP HR10 HX10
          have hf3 := HV311.out.frozen
          have hc3 := HV311.out.cell
          have hc4 := (HV411.out.other (B' := w.heap.size + 1 + 1 + 1) (by omega) (.int .i64 k1)).cell
          have hf4 := (HV411.out.other (B' := w.heap.size + 1 + 1 + 1) (by omega) (.int .i64 k1)).frozen
          obtain ⟨g0, g1, g2, g3, g4, g5⟩ := xcells (h := yh) (v1 := .slice A1 k1 cc1) (v2 := .slice A2 k2 cc2) (b1 := y1) (b2 := y2) HX11.out
          clear g0 g1 g3 g5
          refine region_via ?_
          apply Exists.intro
          apply Exists.intro
          refine ⟨?_, ?_⟩
          · refine wpIn_region_round (fun wx => wx.cell? ⟨b, 2, none⟩ = some (.slice A1 k1 cc1) ∧ wx.cell? ⟨b, 4, none⟩ = some (.int .i64 y1)) (by kernel_rfl) (by kernel_rfl) (by rintro ⟨_, _, h⟩; exact h) ⟨g2, g4⟩ (fun hSx => ?_)
            refine wpAnyH_take (i := 0) (v := .pointer (some ⟨b, 2, none⟩)) rfl (by kernel_rfl) (by kernel_rfl) (by kernel_rfl) (fun _ _ _ h => h) (Or.inl ⟨by rfl, ?_⟩) hSx ?_
            · intro wx hSx2; obtain ⟨s2, s3⟩ := hSx2; clear hSx; go_simp
            simp only [Act.put, List.setIfInBounds_toArray]
            refine wpAnyH_take (i := 3) (v := .pointer (some ⟨b, 4, none⟩)) rfl (by kernel_rfl) (by kernel_rfl) (by kernel_rfl) (fun _ _ _ h => h) (Or.inl ⟨by rfl, ?_⟩) hSx ?_
            · intro wx hSx2; obtain ⟨s2, s3⟩ := hSx2; clear hSx; go_simp
            simp only [Act.put]
            refine wpAnyH_take (i := 1) (v := .slice A1 k1 cc1) rfl (by kernel_rfl) (by kernel_rfl) (by kernel_rfl) (fun _ _ _ h => h) (Or.inl ⟨by rfl, ?_⟩) hSx ?_
            · intro wx hSx2; obtain ⟨s2, s3⟩ := hSx2; clear hSx; go_simp
            simp only [Act.put]
            refine wpAnyH_take (i := 4) (v := .int .i64 y1) rfl (by kernel_rfl) (by kernel_rfl) (by kernel_rfl) (fun _ _ _ h => h) (Or.inl ⟨by rfl, ?_⟩) hSx ?_
            · intro wx hSx2; obtain ⟨s2, s3⟩ := hSx2; clear hSx; go_simp
            simp only [Act.put]
            refine wpAnyH_take (i := 2) (v := .int .i64 k1) rfl (by kernel_rfl) (by kernel_rfl) (by kernel_rfl) (fun _ _ _ h => h) (Or.inl ⟨by rfl, ?_⟩) hSx ?_
            · intro wx hSx2; obtain ⟨s2, s3⟩ := hSx2; clear hSx; go_simp
            simp only [Act.put]
            refine wpAnyH_ready (rs := [5]) (by kernel_rfl) (by simp) ?_
            refine AllReadyH.cons rfl (fun KK hKK => ?_) AllReadyH.nil
            go_simp
            refine hKK.out _ _ (HS1.out _ hSx _) (fun hSy => ?_)
            clear hKK hSx
            have hSx := hSy
            clear hSy KK
            refine wpAnyH_ready (rs := [6]) (by kernel_rfl) (by simp) ?_
            refine AllReadyH.cons rfl (fun KK hKK => ?_) AllReadyH.nil
            go_simp
            refine hKK.out _ _ (HS2.out _ hSx _) (fun hSy => ?_)
            clear hKK hSx
            have hSx := hSy
            clear hSy KK
            refine wpAnyH_done (by kernel_rfl) ?_ _
            exact ⟨rfl, rfl⟩
          gi_wp2
          have hR := (((HR11.out.set (r := w.heap.size + 1 + 1 + 1) (j := 0) (by omega) (by omega) (by omega) (.int .i64 k1)).set (r := w.heap.size + 1 + 1 + 1 + 1) (j := 0) (by omega) (by omega) (by omega) (.int .i64 y1)).drew)
          refine ⟨hR.1.from _, hR.2.1, ?_⟩
          unfold GInv
          rw [HSN.out, HNEW.out]
          have k1' : ∀ {r : Nat} {t : TypeId} {v : Value}, r ≠ w.heap.size + 1 + 1 + 1 → r ≠ w.heap.size + 1 + 1 + 1 + 1 → Boxed W11 r t v → Boxed (((W11.setCell ⟨w.heap.size + 1 + 1 + 1, 0, none⟩ (.int .i64 k1)).setCell ⟨w.heap.size + 1 + 1 + 1 + 1, 0, none⟩ (.int .i64 y1)).drew) r t v := fun {r t v} h1 h2 hx => (hx.other h1 _).other h2 _
          refine ⟨⟨⟨.slice A3 (gn + 1) ac3, us ++ [.slice (some ⟨W6.heap.size, 0, none⟩) 1 1], k1' (by omega) (by omega) HV11.out, ?_⟩, k1' (by omega) (by omega) HV011.out, k1' (by omega) (by omega) HV111.out, (HV311.out.set _).other (by omega) _, (HV411.out.other (by omega) _).set _⟩, hR.2.2.1⟩
          exact ((HP11.out.kept (grown_set _ _ _ _) (fun r e => by cases e; exact Aside.box HV311.out (by decide) (by decide))).kept (grown_set _ _ _ _) (fun r e => by cases e; exact Aside.box (HV411.out.other (by omega) _) (by decide) (by decide))).drew
      · obtain ⟨gv, cv, D, g, us0, u, cur, e1, rfl, rfl, hl0, hBgv, hcur, hcell, hfroz, hurow⟩ := HG6.out.form hG0
        have HNEW : Hid (gstep named slots bts (D ++ [g], s0, b0) yh = (D ++ [g ++ [yh.id]], s0 + (k1 : Int), b0 + y1)) := Lib.hid (by
          have hq1 := HQ1.out
          have hq2 := HL1.out
          rw [gstep_more HSEL.out (by rw [hq2]; exact hs0) (by rw [← hq1]; exact hb0), ← hq1, hq2])
        have HGL : Hid (D.length + 1 ≤ 1000 ∧ g.length ≤ 1000) := Lib.hid (by
          have q1 := HLIM.out.1
          have q2 := HLIM.out.2.1 g (by simp)
          have := HPRE.out
          simp at q1
          omega)
        obtain ⟨rfl, rfl⟩ : A0 = some ⟨gv, 0, none⟩ ∧ c0 = cv := by injection e1 with q1 q2 q3; exact ⟨q1, q3⟩
        have hlen : (D ++ [g]).length = D.length + 1 := by simp
        rw [hlen] at HG6 HV6 hc2
        clear e1 hlen hG0 hl0 hf2
        obtain ⟨Au, cu, hu⟩ := own_slice hurow
        subst hu
        obtain ⟨gn, hgn⟩ : ∃ gn, D.length + 1 = gn := ⟨_, rfl⟩
        have HGN := Lib.hid hgn
        rw [hgn] at hc2 HV6
        obtain ⟨k, hk⟩ : ∃ k, D.length = k := ⟨_, rfl⟩
        have HKK := Lib.hid hk
        rw [hk] at hcell hfroz
        have hpos : (0 : Int) < (gn : Int) := by omega
        have hk0 : (0 : Int) ≤ (k : Int) := by omega
        have hk1 : (k : Int) < (gn : Int) := by omega
        have hwk : IntKind.i64.wrap ((gn : Int) - 1) = (k : Int) := by
          rw [show (gn : Int) - 1 = (k : Int) by omega]
          exact IntWalk.i64_in _ (by have := HGL.out; omega)
        clear hgn hk
        obtain ⟨i0, hi, hz0, hz1, hz2⟩ := info_parts info33
        obtain ⟨WA, hWA⟩ : ∃ WA, W6.drew.alloc (.cells #[.int .u32 yh.id] 33) = WA := ⟨_, rfl⟩
        have HBA : Hid (Below W6.heap.size W6 WA) := Lib.hid (hWA ▸ (below_drew (Below.refl _ W6)).alloc (Nat.le_refl _) _)
        have hnewc : ∀ j u, [Value.int .u32 yh.id][j]? = some u → WA.cell? ((⟨W6.heap.size, 0, none⟩ : Addr).add j) = some u := hWA ▸ new1 W6.drew _ _ _ rfl
        obtain ⟨v', w2, hr, hown', hgrow, _, hat⟩ := run_append_own_at (P := Try.prog) WA w1.heap.size 30 30 33 i0 _ 1 4 Try.underlying30 hi hz0 hz1 hz2 rfl (by decide) _ _ _ (hurow.kept (grown_of_below HBA.out) (by rcases hoo : Value.ownBlock (.slice Au g.length cu) with _ | q <;> simp)) ⟨W6.heap.size, 0, none⟩ 1 1 [.int .u32 yh.id] rfl hnewc (by simp [Value.oneCell']) (by have := HGL.out; simp only [maxLen]; omega) (by have := HGL.out; omega) (Nat.le_trans HR6.out.2.2.2 HBA.out.size)
        obtain ⟨Au', cu', hv'⟩ := own_slice hown'
        subst hv'
        have hune : ∀ r cs t, W6.heap[r]? = some (.cells cs t (0, 0)) → t ≠ 33 → (Value.slice Au g.length cu).ownBlock ≠ some r := fun r cs t h1 h2 => row_ne hurow (fun cs' e => by rw [h1] at e; cases e; exact h2 rfl)
        have up : ∀ {r : Nat} {cs : Array Value} {t : TypeId}, t ≠ 33 → W6.heap[r]? = some (.cells cs t (0, 0)) → w2.heap[r]? = some (.cells cs t (0, 0)) := fun {r cs t} ht hx => (hgrow.block r (Nat.lt_of_lt_of_le (Array.getElem?_eq_some_iff.1 hx).1 HBA.out.size) (fun e => hune r cs t hx ht e.symm)).trans ((HBA.out.block r (Array.getElem?_eq_some_iff.1 hx).1).trans hx)
        have HV2 : Hid (Boxed w2 (w.heap.size + 1 + 1) 26 (.slice (some ⟨gv, 0, none⟩) gn c0)) := Lib.hid (up (by decide) HV6.out)
        have HV02 : Hid (Boxed w2 (w.heap.size) 3 (.int .i64 slots)) := Lib.hid (up (by decide) HV06.out)
        have HV12 : Hid (Boxed w2 (w.heap.size + 1) 3 (.int .i64 bts)) := Lib.hid (up (by decide) HV16.out)
        have HV32 : Hid (Boxed w2 (w.heap.size + 1 + 1 + 1) 3 (.int .i64 (s0 + k1))) := Lib.hid (up (by decide) HV36.out)
        have HV42 : Hid (Boxed w2 (w.heap.size + 1 + 1 + 1 + 1) 3 (.int .i64 (b0 + y1))) := Lib.hid (up (by decide) HV46.out)
        have HX2 : Hid (w2.heap[b]? = some (.cells #[.int .u32 yh.id, .slice yh.A yh.n yh.c, .slice A1 k1 cc1, .slice A2 k2 cc2, .int .i64 y1, .int .i64 y2] 62 (0, 0))) := Lib.hid (up (by decide) HX6.out)
        have HC2 := Lib.hid (up (by decide) hcur)
        have HP : Hid (GR (w2.setCell ⟨gv, k, none⟩ (.slice Au' (g.length + 1) cu')) w1.heap.size (.slice (some ⟨gv, 0, none⟩) gn c0) (D ++ [g ++ [yh.id]]) (us0 ++ [.slice Au' (g.length + 1) cu'])) := Lib.hid (by
          have q := HG6.out.grow HBA.out hown' hgrow hat
          rw [HGN.out, HKK.out] at q
          exact q)
        have HRA : Hid (Rd w w1.heap.size W WA) := Lib.hid (hWA ▸ HR6.out.drew.alloc (by omega))
        have HR2 : Hid (Rd w w1.heap.size W (w2.setCell ⟨gv, k, none⟩ (.slice Au' (g.length + 1) cu'))) := Lib.hid ((HRA.out.grown (by omega) hgrow (fun r e => (hurow.lt r e).1) (row_cells (hurow.kept (grown_of_below HBA.out) (by rcases hoo : Value.ownBlock (.slice Au g.length cu) with _ | q <;> simp)))).set (by omega) (by omega) (.inr hBgv) _)
        have HNE : Hid (gv ≠ w.heap.size ∧ gv ≠ w.heap.size + 1 ∧ gv ≠ w.heap.size + 1 + 1 ∧ gv ≠ w.heap.size + 1 + 1 + 1 ∧ gv ≠ w.heap.size + 1 + 1 + 1 + 1 ∧ gv ≠ b) := Lib.hid ⟨by omega, by omega, by omega, by omega, by omega, fun e => by rw [e] at hcur; rw [HX6.out] at hcur; cases hcur⟩
        have hcellA : (W6.alloc (.cells #[.int .u32 yh.id] 33)).cell? ⟨gv, k, none⟩ = some (.slice Au g.length cu) := cell_al _ hcell
        have hcell2 : ∃ z, w2.cell? ⟨gv, k, none⟩ = some z := by
          have q := HP.out.row.2
          rcases hcc : w2.cell? ⟨gv, k, none⟩ with _ | z
          · exfalso
            have q1 := World.cell?_of_block (w := W6) (w' := w2) (a := ⟨gv, k, none⟩) (HC2.out.trans hcur.symm)
            rw [hcc, hcell] at q1
            cases q1
          · exact ⟨z, rfl⟩
        obtain ⟨z2, hcell2⟩ := hcell2
        have hfroz2 : w2.frozen? ⟨gv, k, none⟩ = false := (World.frozen?_of_block (w := W6) (w' := w2) (a := ⟨gv, k, none⟩) (HC2.out.trans hcur.symm)).trans hfroz
        have hx20 := HX2.out
        obtain ⟨g0, g1, g2, g3, g4, g5⟩ := xcells (h := yh) (v1 := .slice A1 k1 cc1) (v2 := .slice A2 k2 cc2) (b1 := y1) (b2 := y2) HX6.out
        clear g1 g2 g3 g4 g5
        have HS0 : Hid (W6.drew.cell? ⟨w.heap.size + 1 + 1, 0, none⟩ = some (.slice (some ⟨gv, 0, none⟩) gn c0) ∧ W6.drew.cell? ⟨b, 0, none⟩ = some (.int .u32 yh.id)) := Lib.hid ⟨hc2, g0⟩
        have HSA : Hid (WA.cell? ⟨w.heap.size + 1 + 1, 0, none⟩ = some (.slice (some ⟨gv, 0, none⟩) gn c0) ∧ WA.cell? ⟨b, 0, none⟩ = some (.int .u32 yh.id)) := Lib.hid (hWA ▸ ⟨cell_al _ HS0.out.1, cell_al _ HS0.out.2⟩)
        have HSB : Hid (w2.cell? ⟨w.heap.size + 1 + 1, 0, none⟩ = some (.slice (some ⟨gv, 0, none⟩) gn c0) ∧ w2.cell? ⟨b, 0, none⟩ = some (.int .u32 yh.id)) := Lib.hid ⟨HV2.out.cell, (xcells (h := yh) (v1 := .slice A1 k1 cc1) (v2 := .slice A2 k2 cc2) (b1 := y1) (b2 := y2) HX2.out).1⟩
        have HSC : Hid ((w2.setCell ⟨gv, k, none⟩ (.slice Au' (g.length + 1) cu')).cell? ⟨w.heap.size + 1 + 1, 0, none⟩ = some (.slice (some ⟨gv, 0, none⟩) gn c0) ∧ (w2.setCell ⟨gv, k, none⟩ (.slice Au' (g.length + 1) cu')).cell? ⟨b, 0, none⟩ = some (.int .u32 yh.id)) := Lib.hid ⟨(World.cell?_setCell_far _ _ _ _ HNE.out.2.2.1).trans HSB.out.1, (World.cell?_setCell_far _ _ _ _ HNE.out.2.2.2.2.2).trans HSB.out.2⟩
        clear up hune hnewc hat hx20 hcur HC2
        subst hWA
        gi_wp2_with (fail)
        refine region_via ?_
        apply Exists.intro
        apply Exists.intro
        refine ⟨?_, ?_⟩
        · refine wpIn_region_round (fun wx => wx.cell? ⟨w.heap.size + 1 + 1, 0, none⟩ = some (.slice (some ⟨gv, 0, none⟩) gn c0) ∧ wx.cell? ⟨b, 0, none⟩ = some (.int .u32 yh.id)) (by kernel_rfl) (by kernel_rfl) (by rintro ⟨_, _, h⟩; exact h) HS0.out (fun hSx => ?_)
          refine wpAnyH_take (i := 0) (v := .slice (some ⟨gv, 0, none⟩) gn c0) rfl (by kernel_rfl) (by kernel_rfl) (by kernel_rfl) (fun _ _ _ h => h) (Or.inl ⟨by rfl, ?_⟩) hSx ?_
          · intro wx hSx2; obtain ⟨s2, s3⟩ := hSx2; clear hSx; go_simp
          simp only [Act.put, List.setIfInBounds_toArray]
          refine wpAnyH_take (i := 1) (v := .int .i64 gn) rfl (by kernel_rfl) (by kernel_rfl) (by kernel_rfl) (fun _ _ _ h => h) (Or.inl ⟨by rfl, ?_⟩) hSx ?_
          · intro wx hSx2; obtain ⟨s2, s3⟩ := hSx2; clear hSx; go_simp
          simp only [Act.put]
          refine wpAnyH_take (i := 2) (v := .int .i64 k) rfl (by kernel_rfl) (by kernel_rfl) (by kernel_rfl) (fun _ _ _ h => h) (Or.inl ⟨by rfl, ?_⟩) hSx ?_
          · intro wx hSx2; obtain ⟨s2, s3⟩ := hSx2; clear hSx; go_simp
          simp only [Act.put]
          refine wpAnyH_take (i := 3) (v := .slice (some ⟨gv, 0, none⟩) gn c0) rfl (by kernel_rfl) (by kernel_rfl) (by kernel_rfl) (fun _ _ _ h => h) (Or.inl ⟨by rfl, ?_⟩) hSx ?_
          · intro wx hSx2; obtain ⟨s2, s3⟩ := hSx2; clear hSx; go_simp
          simp only [Act.put]
          refine wpAnyH_take (i := 4) (v := .int .i64 gn) rfl (by kernel_rfl) (by kernel_rfl) (by kernel_rfl) (fun _ _ _ h => h) (Or.inl ⟨by rfl, ?_⟩) hSx ?_
          · intro wx hSx2; obtain ⟨s2, s3⟩ := hSx2; clear hSx; go_simp
          simp only [Act.put]
          refine wpAnyH_take (i := 5) (v := .int .i64 k) rfl (by kernel_rfl) (by kernel_rfl) (by kernel_rfl) (fun _ _ _ h => h) (Or.inl ⟨by rfl, ?_⟩) hSx ?_
          · intro wx hSx2; obtain ⟨s2, s3⟩ := hSx2; clear hSx; go_simp
          simp only [Act.put]
          refine wpAnyH_take (i := 6) (v := .pointer (some ⟨gv, k, none⟩)) rfl (by kernel_rfl) (by kernel_rfl) (by kernel_rfl) (fun _ _ _ h => h) (Or.inl ⟨by rfl, ?_⟩) hSx ?_
          · intro wx hSx2; obtain ⟨s2, s3⟩ := hSx2; clear hSx; go_simp
          simp only [Act.put]
          refine wpAnyH_take (i := 8) (v := .pointer (some ⟨b, 0, none⟩)) rfl (by kernel_rfl) (by kernel_rfl) (by kernel_rfl) (fun _ _ _ h => h) (Or.inl ⟨by rfl, ?_⟩) hSx ?_
          · intro wx hSx2; obtain ⟨s2, s3⟩ := hSx2; clear hSx; go_simp
          simp only [Act.put]
          refine wpAnyH_take (i := 9) (v := .pointer (some ⟨b, 0, none⟩)) rfl (by kernel_rfl) (by kernel_rfl) (by kernel_rfl) (fun _ _ _ h => h) (Or.inl ⟨by rfl, ?_⟩) hSx ?_
          · intro wx hSx2; obtain ⟨s2, s3⟩ := hSx2; clear hSx; go_simp
          simp only [Act.put]
          refine wpAnyH_take (i := 10) (v := .int .u32 yh.id) rfl (by kernel_rfl) (by kernel_rfl) (by kernel_rfl) (fun _ _ _ h => h) (Or.inl ⟨by rfl, ?_⟩) hSx ?_
          · intro wx hSx2; obtain ⟨s2, s3⟩ := hSx2; clear hSx; go_simp
          simp only [Act.put]
          refine wpAnyH_ready (rs := [7, 11]) (by kernel_rfl) (by simp) ?_
          refine AllReadyH.cons rfl (fun KK hKK => ?_) (AllReadyH.cons rfl (fun KK hKK => ?_) AllReadyH.nil)

          · go_simp
            refine hKK.out _ _ HS0.out (fun hSy => ?_)
            clear hKK hSy KK
            refine wpAnyH_ready (rs := [11]) (by kernel_rfl) (by simp) ?_
            refine AllReadyH.cons rfl (fun KK hKK => ?_) AllReadyH.nil
            go_simp
            refine hKK.out _ _ (HSA.out) (fun hSy => ?_)
            clear hKK hSx
            have hSx := hSy
            clear hSy KK
            refine wpAnyH_ready (rs := [12]) (by kernel_rfl) (by simp) ?_
            refine AllReadyH.cons rfl (fun KK hKK => ?_) AllReadyH.nil
            refine if_yes (by kernel_rfl) ?_
            refine op_append_run (.tmp 51) (.tmp 55) 30 rfl rfl rfl hr ?_
            refine hKK.out _ _ HSB.out (fun hSy => ?_)
            clear hKK hSx
            have hSx := hSy
            clear hSy KK
            simp only [Act.put, List.setIfInBounds_toArray]
            refine wpAnyH_take (i := 13) (v := .pointer (some ⟨gv, k, none⟩)) rfl (by kernel_rfl) (by kernel_rfl) (by kernel_rfl) (fun _ _ _ h => h) (Or.inl ⟨by rfl, ?_⟩) hSx ?_
            · intro wx hSx2; obtain ⟨s2, s3⟩ := hSx2; clear hSx; go_simp
            simp only [Act.put]
            refine wpAnyH_ready (rs := [14]) (by kernel_rfl) (by simp) ?_
            refine AllReadyH.cons rfl (fun KK hKK => ?_) AllReadyH.nil
            go_simp
            refine hKK.out _ _ (HSC.out) (fun hSy => ?_)
            clear hKK hSx
            have hSx := hSy
            clear hSy KK
            refine wpAnyH_done (by kernel_rfl) ?_ _
            exact ⟨rfl, rfl⟩

          · go_simp
            refine hKK.out _ _ HSA.out (fun hSy => ?_)
            clear hKK hSy KK
            refine wpAnyH_ready (rs := [7]) (by kernel_rfl) (by simp) ?_
            refine AllReadyH.cons rfl (fun KK hKK => ?_) AllReadyH.nil
            go_simp
            refine hKK.out _ _ (HSA.out) (fun hSy => ?_)
            clear hKK hSx
            have hSx := hSy
            clear hSy KK
            refine wpAnyH_ready (rs := [12]) (by kernel_rfl) (by simp) ?_
            refine AllReadyH.cons rfl (fun KK hKK => ?_) AllReadyH.nil
            refine if_yes (by kernel_rfl) ?_
            refine op_append_run (.tmp 51) (.tmp 55) 30 rfl rfl rfl hr ?_
            refine hKK.out _ _ HSB.out (fun hSy => ?_)
            clear hKK hSx
            have hSx := hSy
            clear hSy KK
            simp only [Act.put, List.setIfInBounds_toArray]
            refine wpAnyH_take (i := 13) (v := .pointer (some ⟨gv, k, none⟩)) rfl (by kernel_rfl) (by kernel_rfl) (by kernel_rfl) (fun _ _ _ h => h) (Or.inl ⟨by rfl, ?_⟩) hSx ?_
            · intro wx hSx2; obtain ⟨s2, s3⟩ := hSx2; clear hSx; go_simp
            simp only [Act.put]
            refine wpAnyH_ready (rs := [14]) (by kernel_rfl) (by simp) ?_
            refine AllReadyH.cons rfl (fun KK hKK => ?_) AllReadyH.nil
            go_simp
            refine hKK.out _ _ (HSC.out) (fun hSy => ?_)
            clear hKK hSx
            have hSx := hSy
            clear hSy KK
            refine wpAnyH_done (by kernel_rfl) ?_ _
            exact ⟨rfl, rfl⟩

        gi_wp2
        refine ⟨HR2.out.1.from _, HR2.out.2.1, ?_⟩
        unfold GInv
        rw [HSN.out, HNEW.out]
        exact ⟨⟨⟨_, _, Boxed.setAt HV2.out HNE.out.2.2.1 _, HP.out⟩, Boxed.setAt HV02.out HNE.out.1 _, Boxed.setAt HV12.out HNE.out.2.1 _, Boxed.setAt HV32.out HNE.out.2.2.2.1 _, Boxed.setAt HV42.out HNE.out.2.2.2.2.1 _⟩, HR2.out.2.2.1⟩
    · have HSEL : Hid (isMixed named yh = false) := Lib.hid (by rw [isMixed, hl1, hl2]; simpa using hk0)
      rw [show (decide (0 < k1) && decide (0 < k2)) = false by simpa using hk0] at HMX
      clear hl1 hl2 hk0
      gi_wp2_with ((refine ⟨trivial, ?_⟩; gi_at_call 30; refine (CallsIn.inRound l (callsIn_wide.2 HMX.out)).mono ?_; rintro e wm ⟨rfl, rfl⟩))
      refine ⟨(KeepsOthers.alloc _ _).from _, KeepX.grown (World.grownBy_alloc _ _ none) fun q hq => ⟨Nat.lt_of_lt_of_le (xp_lt (by omega) hsz hq) hsz2, fun e => (by cases e)⟩, ?_⟩
      unfold GInv
      rw [HSN.out, gstep_no HSEL.out]
      exact ⟨⟨⟨_, _, HV.out.alloc _, HG.out.below HW0.out⟩, HV0.out.alloc _, HV1.out.alloc _, HV3.out.alloc _, HV4.out.alloc _⟩, HB.out.trans (HW0.out.mono HB.out.size)⟩
end Go.Proofs.Ytgdljjoaiogpfaa
