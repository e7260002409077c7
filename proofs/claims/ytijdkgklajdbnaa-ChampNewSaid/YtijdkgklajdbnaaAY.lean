/- The walk over few. -/
import Derived.Test.YtijdkgklajdbnaaAX
namespace Go.Proofs.Ytijdkgklajdbnaa
open Go.RowKit
def AOkc (x : Lst) : Prop := (x.A = none ∧ x.l = [] ∧ x.c = 0) ∨ ∃ a, x.A = some a
theorem RkSt.other {w W W' : World} {B : Nat} {v : Value} {vs : List Lst} (h : RkSt w B W v vs) {e s n : Nat} {u : Value} {xs : List Value} (hu : W.ownsRow w.heap.size e s u n xs) (he1 : 30 ≠ e) (he2 : 24 ≠ e) (hg : W.grownBy W' u.ownBlock) : RkSt w B W' v vs :=
  { h with below := h.below.grown hg h.below.size (fun j hj => (hu.lt j hj).1), orow := h.orow.kept hg (own_ne h.orow hu he1), laid := fun x hx => (h.laid x hx).kept hg (own_ne (h.laid x hx) hu he2), bW := Nat.le_trans h.bW hg.size }
theorem RkSt.ls {w W : World} {B : Nat} {A : Option Addr} {c : Nat} {vs : List Lst} (h : RkSt w B W (.slice A vs.length c) vs) : Ls W A vs := ⟨row_own h.orow, fun x hx => ⟨row_own (h.laid x hx), own_cap (h.laid x hx)⟩⟩
theorem RkSt.aok {w W : World} {B : Nat} {v : Value} {vs : List Lst} (h : RkSt w B W v vs) : ∀ x ∈ vs, AOk x.A x.l.length := fun x hx => aok_own (h.laid x hx)
def cutL (L : List (List Id)) (N : Nat) : List (List Id) := (L.take N).map (·.take 12)
theorem cutL_snoc {L : List (List Id)} {k : Nat} {l : List Id} (h : L[k]? = some l) : cutL L (k + 1) = cutL L k ++ [l.take 12] := by
  unfold cutL
  rw [List.take_add_one, h]
  simp
theorem fsL_snoc (a : List Fp) (x : Fp) : fsL (a ++ [x]) = fsL a ++ fpL x := by rw [fsL_app]; simp [fsL]
/-- what few answers -/
def FewPost (w : World) (hs : List Fp) (L : List (List Id)) (e : Ending) (w' : World) : Prop :=
  ∃ N HA hc LA lc vs, N ≤ 20 ∧ e = .returned (.tuple #[.slice HA (hs.take N).length hc, .slice LA vs.length lc]) ∧ vs.length = (hs.take N).length ∧ ids vs = cutL (L) N ∧ w'.ownsRow w.heap.size 29 32 (.slice HA (hs.take N).length hc) (hs.take N).length (fsL (hs.take N)) ∧ RkSt w w'.heap.size w' (.slice LA vs.length lc) vs
theorem if_wanted {c : Prop} [Decidable c] {A B : Prop} (h : c) (hA : A) : if c then A else B := by rw [if_pos h]; exact hA
theorem oper_append_at {w : World} {o : Oper} {a : Act} {K : Act → World → Prop} {Q : Exit → Act → World → Prop} (s x : Operand) (t : TypeId)
    (ho : o.op = .call { callee := .builtin .append, args := #[s, x], argTypes := #[t, t] })
    (base : Nat) (e : TypeId) (i : TypeInfo) (z : Value) (size bytes : Nat) (ht : Try.prog.underlying t = some (.slice e)) (hi : Try.prog.info? e = some i) (hz : i.zero = some z)
    (hsize : i.size = size) (hby : i.bytes = bytes) (hzs : z.cells.size = size) (hsz : 0 < size)
    (v : Value) (n : Nat) (xs : List Value) (hs : a.eval s = v) (hown : w.ownsRow base e size v n xs)
    (ad : Addr) (m c : Nat) (news : List Value) (hx : a.eval x = .slice (some ad) m c) (hl : news.length = m * size) (hnews : ∀ j u, news[j]? = some u → w.cell? (ad.add j) = some u) (h1 : ∀ u ∈ news, u.oneCell' = true)
    (h63 : n + m ≤ maxLen) (hbytes : (n + m) * bytes ≤ 140737488355328) (hbase : base ≤ w.heap.size)
    (h : ∀ v' w', w'.ownsRow base e size v' (n + m) (xs ++ news) → w.grownBy w' v.ownBlock → K (a.put o.dst v') w') : Oper.wp Try.prog o a w K Q := by
  obtain ⟨v', w', hr, h2, h3, _, _⟩ := run_append_own_at (P := Try.prog) w base t o.type e i z size bytes ht hi hz hsize hby hzs hsz v n xs hown ad m c news hl hnews h1 h63 hbytes hbase
  unfold Oper.wp execOp
  simp only [ho, resolve, invoke, builtin, Sem.run_bind, Sem.run_pure, Result.andThen_ok, List.map_toArray, List.map_cons, List.map_nil, hs, hx, hr]
  exact h v' w' h2 h3
theorem oper_append_none {w : World} {o : Oper} {a : Act} {K : Act → World → Prop} {Q : Exit → Act → World → Prop} (s x : Operand) (t : TypeId)
    (ho : o.op = .call { callee := .builtin .append, args := #[s, x], argTypes := #[t, t] })
    (base : Nat) (e : TypeId) (i : TypeInfo) (size : Nat) (ht : Try.prog.underlying t = some (.slice e)) (hi : Try.prog.info? e = some i)
    (v : Value) (n : Nat) (xs : List Value) (hs : a.eval s = v) (hown : w.ownsRow base e size v n xs) (hx : a.eval x = .slice none 0 0) (h : K (a.put o.dst v) w) : Oper.wp Try.prog o a w K Q := by
  have hrun := run_append_owned_none (P := Try.prog) (w := w) base t o.type e i size ht hi v n xs hown
  unfold Oper.wp execOp
  simp only [ho, resolve, invoke, builtin, Sem.run_bind, Sem.run_pure, Result.andThen_ok, List.map_toArray, List.map_cons, List.map_nil, hs, hx, hrun]
  exact h
set_option maxRecDepth 100000 in
set_option maxHeartbeats 4000000 in
theorem few9 {A B : Option Addr} {c d : Nat} {hs : List Fp} {ls : List Lst} {w : World} (h : Fps w A hs) (hl : Ls w B ls) (ha : AllFp hs) (hlo : ∀ x ∈ ls, AOkc x) :
    Calls Try.prog 9 #[.slice A hs.length c, .slice B ls.length d] w fun e w' => FewPost w hs (ids ls) e w' := by
  have H := Lib.hid h
  have HL := Lib.hid hl
  have HA' := Lib.hid ha
  have HLO := Lib.hid hlo
  obtain ⟨i29, hi, hz0, hz1, hz2⟩ := info_parts info29'
  have I29 := Lib.hid hi
  have Z29 := Lib.hid hz0
  have S29 := Lib.hid hz1
  have Y29 := Lib.hid hz2
  clear hi hz0 hz1 hz2
  obtain ⟨i24, hi, hz0, hz1, hz2⟩ := info_parts info24
  have I24 := Lib.hid hi
  have Z24 := Lib.hid hz0
  have S24 := Lib.hid hz1
  have Y24 := Lib.hid hz2
  clear hi hz0 hz1 hz2
  obtain ⟨i30, hi, hz0, hz1, hz2⟩ := info_parts info30
  have I30 := Lib.hid hi
  have Z30 := Lib.hid hz0
  have S30 := Lib.hid hz1
  have Y30 := Lib.hid hz2
  clear hi hz0 hz1 hz2 h hl ha hlo
  go_enter Try.func9, Try.ntmps9
  go_wp2_with fail
  go_loopg [6, 7, 8] 20 (fun gk v6 v7 i wr => ∃ (k : Nat) (vs : List Lst), k ≤ hs.length ∧ k ≤ ls.length ∧ k ≤ 20 ∧ gk = 20 - k ∧ i = .int .i64 k ∧ vs.length = k ∧ ids vs = cutL (ids ls) k ∧ wr.ownsRow w.heap.size 29 32 v6 k (fsL (hs.take k)) ∧ RkSt w wr.heap.size wr v7 vs)
  case atStart => exact ⟨0, [], Nat.zero_le _, Nat.zero_le _, Nat.zero_le _, rfl, rfl, rfl, rfl, World.ownsRow_nil _ _ _ _, RkSt.start w⟩
  case round =>
    obtain ⟨k, vs, hk1, hk2, hk3, hgk, rfl, hvl, hids, hro, hst⟩ := hrel
    obtain ⟨XA, XC, rfl⟩ := own_slice hro
    obtain ⟨VA, VC, rfl⟩ := own_slice hst.orow
    have HK := Lib.hid hgk
    have HVL := Lib.hid hvl
    have HIDS := Lib.hid hids
    have HRO := Lib.hid hro
    have HST := Lib.hid hst
    clear hgk hvl hids hro hst
    have hk0 : (0 : Int) ≤ (k : Int) := by omega
    by_cases hlt : k < hs.length ∧ k < ls.length ∧ k < 20
    · obtain ⟨hl1, hl2, hl3⟩ := hlt
      obtain ⟨x, hx⟩ : ∃ x, hs[k]? = some x := ⟨_, List.getElem?_eq_getElem hl1⟩
      obtain ⟨y, hy⟩ : ∃ y, ls[k]? = some y := ⟨_, List.getElem?_eq_getElem hl2⟩
      have HXF := Lib.hid (HA'.out x (List.mem_of_getElem? hx))
      obtain ⟨b, o, rfl, _, hr⟩ := Fps.get (H.out.below HST.out.below) HA'.out hx
      have HGY : Hid (∀ W, Below w.heap.size w W → ∃ b o, B = some ⟨b, o, none⟩ ∧ b < W.heap.size ∧ W.cell? ⟨b, o + k, none⟩ = some (.slice y.A y.l.length y.c) ∧ Ids W y.A y.l ∧ y.l.length ≤ y.c) := Lib.hid (fun W hW => (HL.out.below hW).get hy)
      have HRW := Lib.hid hr
      have HIX := Lib.hid (info29f HXF.out)
      have HFX : Hid ((fpL x).length = 32) := Lib.hid (fpL_length HXF.out)
      have HYO := Lib.hid (HLO.out y (List.mem_of_getElem? hy))
      have HCUT := Lib.hid (cutL_snoc (ids_get hy))
      have HTX : Hid (fsL (hs.take (k + 1)) = fsL (hs.take k) ++ fpL x) := Lib.hid (by rw [List.take_add_one, hx]; exact fsL_snoc _ _)
      have hl1i : (k : Int) < (hs.length : Int) := by omega
      have hl2i : (k : Int) < (ls.length : Int) := by omega
      have hl3i : (k : Int) < 20 := by omega
      clear hx hy hr
      have HB0 := Lib.hid HST.out.below.size
      go_wp2_with (first
        | ((with_reducible refine wpList_load_mid (op := ⟨some 29, _, _, _, _, _⟩) rfl 29 (.tmp 28) rfl b (o + k * 32) ?_ (fpL x) _ HRW.out Try.underlying29 rfl HIX.out ?_); rfl)
        | ((with_reducible refine wpList_build_one (op := ⟨some 30, _, _, _, _, _⟩) rfl 22 (.tmp 29) ?_ 29 32 _ (fpL x) ?_ Try.underlying22 Try.sizeOf29 Try.zeroValue29 ?_ ?_ HFX.out ?_); rfl; rfl; decide; decide)
        | (at_builtin; refine wpList_append_own_at _ rfl (.tmp 25) (.tmp 30) _ rfl w.heap.size 29 i29 _ 32 32 Try.underlying22 I29.out Z29.out S29.out Y29.out (by simp [Value.cells]) (by decide) _ k (fsL (hs.take k)) rfl (HRO.out.alloc _) _ 1 1 (fpL x) rfl (by rw [HFX.out]) (newF _ x _ rfl) fpL_one (by simp only [maxLen]; omega) (by omega) (by have := HB0.out; simp at this ⊢; omega) ?_))
      intro v1 w1 ho1 hg1 _ _
      obtain ⟨XB, XD, rfl⟩ := own_slice ho1
      have hbA : Below wr.heap.size wr (wr.alloc (.cells (fpL x).toArray 29)) := (Below.refl _ _).alloc (Nat.le_refl _) _
      have HST1 := Lib.hid ((HST.out.belowed hbA).other (HRO.out.alloc _) (by decide) (by decide) hg1).top
      have HO1 : Hid (w1.ownsRow w.heap.size 29 32 (.slice XB (k + 1) XD) (k + 1) (fsL (hs.take (k + 1)))) := Lib.hid (by rw [HTX.out]; exact ho1)
      obtain ⟨b2, o2, rfl, _, c2, hyi, hyc⟩ := HGY.out w1 HST1.out.below
      have HYI := Lib.hid hyi
      clear ho1 hg1 hbA hyi HRO HST
      obtain ⟨yA, yc, yl⟩ := y
      simp only at *
      rcases HYO.out with ⟨e1, e2, e3⟩ | ⟨a3, e1⟩
      · simp only at e1 e2 e3
        subst e1; subst e2; subst e3
        have HCS : Hid (∀ W, Below w.heap.size w W → W.cell? ⟨b2, o2 + k, none⟩ = some (.slice none 0 0) ∧ True) := Lib.hid (fun W hW => by
          obtain ⟨b', o', e', _, c', _⟩ := HGY.out W hW
          simp only [Option.some.injEq, Addr.mk.injEq] at e'
          obtain ⟨q1, q2, _⟩ := e'
          rw [q1, q2]
          exact ⟨c', trivial⟩)
        have HS0 := Lib.hid (HST1.out.belowed (below_drew (Below.refl _ _)))
        have hm00 : min (0 : Int) 12 = 0 := by decide
        clear c2 hyc
        go_wp2_with fail
        refine wp_region_held_drew (S := (fun W => W.cell? ⟨b2, o2 + k, none⟩ = some (.slice none 0 0) ∧ True)) (by kernel_rfl) ?_ (fun hSx => ?_)
        · exact HCS.out _ HS0.out.below
        refine wpAnyH_take (i := 0) (oi := ⟨some 32, _, _, _, _, none⟩) (v := ?_) rfl (by kernel_rfl) (by kernel_rfl) (by kernel_rfl) (fun _ _ _ h => h) (Or.inl ⟨by kernel_rfl, ?_⟩) hSx ?_
        rotate_left 1
        focus (intro wx hSw; obtain ⟨s0, s1⟩ := hSw; go_simp; first | done | with_reducible rfl)
        try simp only [Act.put, List.setIfInBounds_toArray, List.set_cons_zero, List.set_cons_succ]
        refine wpAnyH_take (i := 2) (oi := ⟨some 34, _, _, _, _, none⟩) (v := ?_) rfl (by kernel_rfl) (by kernel_rfl) (by kernel_rfl) (fun _ _ _ h => h) (Or.inl ⟨by kernel_rfl, ?_⟩) hSx ?_
        rotate_left 1
        focus (intro wx hSw; obtain ⟨s0, s1⟩ := hSw; go_simp; first | done | with_reducible rfl)
        try simp only [Act.put, List.setIfInBounds_toArray, List.set_cons_zero, List.set_cons_succ]
        refine wpAnyH_take (i := 3) (oi := ⟨some 35, _, _, _, _, none⟩) (v := ?_) rfl (by kernel_rfl) (by kernel_rfl) (by kernel_rfl) (fun _ _ _ h => h) (Or.inl ⟨by kernel_rfl, ?_⟩) hSx ?_
        rotate_left 1
        focus (intro wx hSw; obtain ⟨s0, s1⟩ := hSw; go_simp; first | done | with_reducible rfl)
        try simp only [Act.put, List.setIfInBounds_toArray, List.set_cons_zero, List.set_cons_succ]
        refine wpAnyH_take (i := 4) (oi := ⟨some 36, _, _, _, _, none⟩) (v := ?_) rfl (by kernel_rfl) (by kernel_rfl) (by kernel_rfl) (fun _ _ _ h => h) (Or.inl ⟨by kernel_rfl, ?_⟩) hSx ?_
        rotate_left 1
        focus (intro wx hSw; obtain ⟨s0, s1⟩ := hSw; go_simp; first | done | with_reducible rfl)
        try simp only [Act.put, List.setIfInBounds_toArray, List.set_cons_zero, List.set_cons_succ]
        refine wpAnyH_take (i := 5) (oi := ⟨some 37, _, _, _, _, none⟩) (v := ?_) rfl (by kernel_rfl) (by kernel_rfl) (by kernel_rfl) (fun _ _ _ h => h) (Or.inl ⟨by kernel_rfl, ?_⟩) hSx ?_
        rotate_left 1
        focus (intro wx hSw; obtain ⟨s0, s1⟩ := hSw; go_simp; first | done | with_reducible rfl)
        try simp only [Act.put, List.setIfInBounds_toArray, List.set_cons_zero, List.set_cons_succ]
        refine wpAnyH_take (i := 6) (oi := ⟨some 38, _, _, _, _, none⟩) (v := ?_) rfl (by kernel_rfl) (by kernel_rfl) (by kernel_rfl) (fun _ _ _ h => h) (Or.inl ⟨by kernel_rfl, ?_⟩) hSx ?_
        rotate_left 1
        focus (intro wx hSw; obtain ⟨s0, s1⟩ := hSw; go_simp; first | done | with_reducible rfl)
        try simp only [Act.put, List.setIfInBounds_toArray, List.set_cons_zero, List.set_cons_succ]
        refine wpAnyH_take (i := 7) (oi := ⟨some 39, _, _, _, _, none⟩) (v := ?_) rfl (by kernel_rfl) (by kernel_rfl) (by kernel_rfl) (fun _ _ _ h => h) (Or.inl ⟨by kernel_rfl, ?_⟩) hSx ?_
        rotate_left 1
        focus (intro wx hSw; obtain ⟨s0, s1⟩ := hSw; go_simp; first | done | with_reducible rfl)
        try simp only [Act.put, List.setIfInBounds_toArray, List.set_cons_zero, List.set_cons_succ]
        refine wpAnyH_take (i := 8) (oi := ⟨some 40, _, _, _, _, none⟩) (v := ?_) rfl (by kernel_rfl) (by kernel_rfl) (by kernel_rfl) (fun _ _ _ h => h) (Or.inl ⟨by kernel_rfl, ?_⟩) hSx ?_
        rotate_left 1
        focus (intro wx hSw; obtain ⟨s0, s1⟩ := hSw; go_simp; first | done | with_reducible rfl)
        try simp only [Act.put, List.setIfInBounds_toArray, List.set_cons_zero, List.set_cons_succ]
        refine wpAnyH_take (i := 9) (oi := ⟨some 41, _, _, _, _, none⟩) (v := ?_) rfl (by kernel_rfl) (by kernel_rfl) (by kernel_rfl) (fun _ _ _ h => h) (Or.inl ⟨by kernel_rfl, ?_⟩) hSx ?_
        rotate_left 1
        focus (intro wx hSw; obtain ⟨s0, s1⟩ := hSw; go_simp; first | done | with_reducible rfl)
        try simp only [Act.put, List.setIfInBounds_toArray, List.set_cons_zero, List.set_cons_succ]
        refine wpAnyH_take (i := 10) (oi := ⟨some 42, _, _, _, _, none⟩) (v := ?_) rfl (by kernel_rfl) (by kernel_rfl) (by kernel_rfl) (fun _ _ _ h => h) (Or.inl ⟨by kernel_rfl, ?_⟩) hSx ?_
        rotate_left 1
        focus (intro wx hSw; obtain ⟨s0, s1⟩ := hSw; go_simp; first | done | with_reducible rfl)
        try simp only [Act.put, List.setIfInBounds_toArray, List.set_cons_zero, List.set_cons_succ]
        refine wpAnyH_take (i := 11) (oi := ⟨some 43, _, _, _, _, none⟩) (v := ?_) rfl (by kernel_rfl) (by kernel_rfl) (by kernel_rfl) (fun _ _ _ h => h) (Or.inl ⟨by kernel_rfl, ?_⟩) hSx ?_
        rotate_left 1
        focus (intro wx hSw; obtain ⟨s0, s1⟩ := hSw; go_simp; first | done | with_reducible rfl)
        try simp only [Act.put, List.setIfInBounds_toArray, List.set_cons_zero, List.set_cons_succ]
        refine wpAnyH_take (i := 12) (oi := ⟨some 44, _, _, _, _, none⟩) (v := ?_) rfl (by kernel_rfl) (by kernel_rfl) (by kernel_rfl) (fun _ _ _ h => h) (Or.inl ⟨by kernel_rfl, ?_⟩) hSx ?_
        rotate_left 1
        focus (intro wx hSw; obtain ⟨s0, s1⟩ := hSw; go_simp; first | done | with_reducible rfl)
        try simp only [Act.put, List.setIfInBounds_toArray, List.set_cons_zero, List.set_cons_succ]
        refine wpAnyH_ready (rs := [1]) (by kernel_rfl) (by simp) ?_
        refine AllReadyH.cons (o := ⟨some 33, _, _, _, _, none⟩) rfl (fun KK hKK => ?_) AllReadyH.nil
        go_simp
        have HE1 : Hid ((w1.drew.alloc (.cells #[] 24)).ownsRow w1.heap.size 24 1 (.slice (some ⟨w1.heap.size, 0, none⟩) 0 0) 0 []) := Lib.hid (empty_own w1.drew 24 1)
        have HR1 : Hid (Below w1.heap.size w1 (w1.drew.alloc (.cells #[] 24))) := Lib.hid ((below_drew (Below.refl _ _)).alloc (Nat.le_refl _) _)
        have HSA := Lib.hid (HST1.out.belowed HR1.out)
        have HOA := Lib.hid (own_below HO1.out HR1.out)
        refine hKK.out _ _ (HCS.out _ HSA.out.below) (fun hSy => ?_)
        clear hKK hSx
        have hSx := hSy
        clear hSy KK
        try simp only [Act.put, List.setIfInBounds_toArray, List.set_cons_zero, List.set_cons_succ]
        refine wpAnyH_ready (rs := [13]) (by kernel_rfl) (by simp) ?_
        refine AllReadyH.cons (o := ⟨some 45, _, _, _, _, none⟩) rfl (fun KK hKK => ?_) AllReadyH.nil
        refine if_wanted rfl ?_
        refine oper_append_none (.tmp 33) (.tmp 44) _ rfl w1.heap.size 24 i24 1 Try.underlying30 I24.out _ 0 [] rfl HE1.out rfl ?_
        have HX2 : Hid (OwnI (w1.drew.alloc (.cells #[] 24)) w1.heap.size (.slice (some ⟨w1.heap.size, 0, none⟩) 0 0) []) := Lib.hid HE1.out
        have HLV : Hid (lsV ⟨some ⟨w1.heap.size, 0, none⟩, 0, []⟩ = .slice (some ⟨w1.heap.size, 0, none⟩) 0 0) := Lib.hid rfl
        have HSB := HSA
        have HOB := HOA
        refine hKK.out _ _ (HCS.out _ HSB.out.below) (fun hSy => ?_)
        clear hKK hSx
        have hSx := hSy
        clear hSy KK
        try simp only [Act.put, List.setIfInBounds_toArray, List.set_cons_zero, List.set_cons_succ]
        refine wpAnyH_ready (rs := [14]) (by kernel_rfl) (by simp) ?_
        refine AllReadyH.cons (o := ⟨some 46, _, _, _, _, none⟩) rfl (fun KK hKK => ?_) AllReadyH.nil
        go_simp
        have HSC := Lib.hid (HSB.out.belowed ((Below.refl _ _).alloc (Nat.le_refl _) (.cells #[.slice (some ⟨w1.heap.size, 0, none⟩) 0 0] 30)))
        have HOC := Lib.hid (HOB.out.alloc (.cells #[.slice (some ⟨w1.heap.size, 0, none⟩) 0 0] 30))
        refine hKK.out _ _ (HCS.out _ HSC.out.below) (fun hSy => ?_)
        clear hKK hSx
        have hSx := hSy
        clear hSy KK
        try simp only [Act.put, List.setIfInBounds_toArray, List.set_cons_zero, List.set_cons_succ]
        refine wpAnyH_ready (rs := [15]) (by kernel_rfl) (by simp) ?_
        refine AllReadyH.cons (o := ⟨some 47, _, _, _, _, none⟩) rfl (fun KK hKK => ?_) AllReadyH.nil
        refine if_wanted rfl ?_
        refine oper_append_at (.tmp 32) (.tmp 46) _ rfl w.heap.size 30 i30 _ 1 24 Try.underlying23 I30.out Z30.out S30.out Y30.out rfl (by decide) _ vs.length (lsL vs) rfl (HSB.out.orow.alloc (.cells #[.slice (some ⟨w1.heap.size, 0, none⟩) 0 0] 30)) ⟨w1.heap.size + 1, 0, none⟩ 1 1 [lsV ⟨(some ⟨w1.heap.size, 0, none⟩), 0, []⟩] rfl rfl (by rw [HLV.out]; exact new1 _ _ _ _ (by rw [World.size_alloc])) (by rw [HLV.out]; simp [Value.oneCell']) (by have := HVL.out; simp only [maxLen]; omega) (by have := HVL.out; omega) HSC.out.below.size ?_
        intro v4 w4 ho4 hg4
        obtain ⟨DA, Dc, rfl⟩ := own_slice ho4
        have HS4 := Lib.hid (HSB.out.push (x := ⟨(some ⟨w1.heap.size, 0, none⟩), 0, []⟩) HX2.out rfl ho4 hg4)
        have HO4 := Lib.hid (HOC.out.kept hg4 (own_ne HOC.out HSC.out.orow (by decide)))
        clear ho4 hg4
        refine hKK.out _ _ (HCS.out _ HS4.out.below) (fun hSy => ?_)
        clear hKK hSx
        have hSx := hSy
        clear hSy KK
        try simp only [Act.put, List.setIfInBounds_toArray, List.set_cons_zero, List.set_cons_succ]
        refine wpAnyH_take (i := 16) (oi := ⟨some 7, _, _, _, _, none⟩) (v := ?_) rfl (by kernel_rfl) (by kernel_rfl) (by kernel_rfl) (fun _ _ _ h => h) (Or.inl ⟨by kernel_rfl, ?_⟩) hSx ?_
        rotate_left 1
        focus (intro wx hSw; obtain ⟨s0, s1⟩ := hSw; go_simp; first | done | with_reducible rfl)
        try simp only [Act.put, List.setIfInBounds_toArray, List.set_cons_zero, List.set_cons_succ]
        refine wpAnyH_done (by kernel_rfl) ?_ _
        go_wp2_with fail
        go_roundg (20 - (k + 1))
        case measure => rw [HK.out]; omega
        case rel => exact ⟨k + 1, vs ++ [⟨some ⟨w1.heap.size, 0, none⟩, 0, []⟩], by omega, by omega, by omega, rfl, by go_num, by rw [List.length_append, HVL.out]; rfl, by rw [HCUT.out, ← HIDS.out]; simp [ids], HO4.out, HS4.out⟩
      · simp only at e1
        subst e1
        obtain ⟨m, hmm⟩ : ∃ m, min yl.length 12 = m := ⟨_, rfl⟩
        have hmi : min (yl.length : Int) 12 = (m : Int) := by omega
        have hm0 : (0 : Int) ≤ (m : Int) := by omega
        have hm1 : m ≤ yl.length := by omega
        have hmc : m ≤ yc := by omega
        have HCS : Hid (∀ W, Below w.heap.size w W → W.cell? ⟨b2, o2 + k, none⟩ = some (.slice (some a3) yl.length yc) ∧ True) := Lib.hid (fun W hW => by
          obtain ⟨b', o', e', _, c', _⟩ := HGY.out W hW
          simp only [Option.some.injEq, Addr.mk.injEq] at e'
          obtain ⟨q1, q2, _⟩ := e'
          rw [q1, q2]
          exact ⟨c', trivial⟩)
        have HNW : Hid (∀ W, Below w.heap.size w W → ∀ j u, (idL (yl.take m))[j]? = some u → W.cell? (a3.add j) = some u) := Lib.hid (fun W hW j u hj => by
          obtain ⟨_, _, _, _, _, hid, _⟩ := HGY.out W hW
          have hj2 : (idL yl)[j]? = some u := by
            unfold idL at hj ⊢
            rw [List.map_take, List.getElem?_take] at hj
            split at hj
            · exact hj
            · cases hj
          obtain ⟨b', o', e', _, hc⟩ := hid (fun e => by rw [e] at hj2; cases hj2)
          obtain rfl := Option.some.inj e'
          have ea : (⟨b', o', none⟩ : Addr).add j = ⟨b', o' + j, none⟩ := by unfold Addr.add; split <;> simp_all
          rw [ea]
          exact hc j u hj2)
        have HS0 := Lib.hid (HST1.out.belowed (below_drew (Below.refl _ _)))
        clear c2
        go_wp2_with fail
        refine wp_region_held_drew (S := (fun W => W.cell? ⟨b2, o2 + k, none⟩ = some (.slice (some a3) yl.length yc) ∧ True)) (by kernel_rfl) ?_ (fun hSx => ?_)
        · exact HCS.out _ HS0.out.below
        refine wpAnyH_take (i := 0) (oi := ⟨some 32, _, _, _, _, none⟩) (v := ?_) rfl (by kernel_rfl) (by kernel_rfl) (by kernel_rfl) (fun _ _ _ h => h) (Or.inl ⟨by kernel_rfl, ?_⟩) hSx ?_
        rotate_left 1
        focus (intro wx hSw; obtain ⟨s0, s1⟩ := hSw; go_simp; first | done | with_reducible rfl)
        try simp only [Act.put, List.setIfInBounds_toArray, List.set_cons_zero, List.set_cons_succ]
        refine wpAnyH_take (i := 2) (oi := ⟨some 34, _, _, _, _, none⟩) (v := ?_) rfl (by kernel_rfl) (by kernel_rfl) (by kernel_rfl) (fun _ _ _ h => h) (Or.inl ⟨by kernel_rfl, ?_⟩) hSx ?_
        rotate_left 1
        focus (intro wx hSw; obtain ⟨s0, s1⟩ := hSw; go_simp; first | done | with_reducible rfl)
        try simp only [Act.put, List.setIfInBounds_toArray, List.set_cons_zero, List.set_cons_succ]
        refine wpAnyH_take (i := 3) (oi := ⟨some 35, _, _, _, _, none⟩) (v := ?_) rfl (by kernel_rfl) (by kernel_rfl) (by kernel_rfl) (fun _ _ _ h => h) (Or.inl ⟨by kernel_rfl, ?_⟩) hSx ?_
        rotate_left 1
        focus (intro wx hSw; obtain ⟨s0, s1⟩ := hSw; go_simp; first | done | with_reducible rfl)
        try simp only [Act.put, List.setIfInBounds_toArray, List.set_cons_zero, List.set_cons_succ]
        refine wpAnyH_take (i := 4) (oi := ⟨some 36, _, _, _, _, none⟩) (v := ?_) rfl (by kernel_rfl) (by kernel_rfl) (by kernel_rfl) (fun _ _ _ h => h) (Or.inl ⟨by kernel_rfl, ?_⟩) hSx ?_
        rotate_left 1
        focus (intro wx hSw; obtain ⟨s0, s1⟩ := hSw; go_simp; first | done | with_reducible rfl)
        try simp only [Act.put, List.setIfInBounds_toArray, List.set_cons_zero, List.set_cons_succ]
        refine wpAnyH_take (i := 5) (oi := ⟨some 37, _, _, _, _, none⟩) (v := ?_) rfl (by kernel_rfl) (by kernel_rfl) (by kernel_rfl) (fun _ _ _ h => h) (Or.inl ⟨by kernel_rfl, ?_⟩) hSx ?_
        rotate_left 1
        focus (intro wx hSw; obtain ⟨s0, s1⟩ := hSw; go_simp; first | done | with_reducible rfl)
        try simp only [Act.put, List.setIfInBounds_toArray, List.set_cons_zero, List.set_cons_succ]
        refine wpAnyH_take (i := 6) (oi := ⟨some 38, _, _, _, _, none⟩) (v := ?_) rfl (by kernel_rfl) (by kernel_rfl) (by kernel_rfl) (fun _ _ _ h => h) (Or.inl ⟨by kernel_rfl, ?_⟩) hSx ?_
        rotate_left 1
        focus (intro wx hSw; obtain ⟨s0, s1⟩ := hSw; go_simp; first | done | with_reducible rfl)
        try simp only [Act.put, List.setIfInBounds_toArray, List.set_cons_zero, List.set_cons_succ]
        refine wpAnyH_take (i := 7) (oi := ⟨some 39, _, _, _, _, none⟩) (v := ?_) rfl (by kernel_rfl) (by kernel_rfl) (by kernel_rfl) (fun _ _ _ h => h) (Or.inl ⟨by kernel_rfl, ?_⟩) hSx ?_
        rotate_left 1
        focus (intro wx hSw; obtain ⟨s0, s1⟩ := hSw; go_simp; first | done | with_reducible rfl)
        try simp only [Act.put, List.setIfInBounds_toArray, List.set_cons_zero, List.set_cons_succ]
        refine wpAnyH_take (i := 8) (oi := ⟨some 40, _, _, _, _, none⟩) (v := ?_) rfl (by kernel_rfl) (by kernel_rfl) (by kernel_rfl) (fun _ _ _ h => h) (Or.inl ⟨by kernel_rfl, ?_⟩) hSx ?_
        rotate_left 1
        focus (intro wx hSw; obtain ⟨s0, s1⟩ := hSw; go_simp; first | done | with_reducible rfl)
        try simp only [Act.put, List.setIfInBounds_toArray, List.set_cons_zero, List.set_cons_succ]
        refine wpAnyH_take (i := 9) (oi := ⟨some 41, _, _, _, _, none⟩) (v := ?_) rfl (by kernel_rfl) (by kernel_rfl) (by kernel_rfl) (fun _ _ _ h => h) (Or.inl ⟨by kernel_rfl, ?_⟩) hSx ?_
        rotate_left 1
        focus (intro wx hSw; obtain ⟨s0, s1⟩ := hSw; go_simp; first | done | with_reducible rfl)
        try simp only [Act.put, List.setIfInBounds_toArray, List.set_cons_zero, List.set_cons_succ]
        refine wpAnyH_take (i := 10) (oi := ⟨some 42, _, _, _, _, none⟩) (v := ?_) rfl (by kernel_rfl) (by kernel_rfl) (by kernel_rfl) (fun _ _ _ h => h) (Or.inl ⟨by kernel_rfl, ?_⟩) hSx ?_
        rotate_left 1
        focus (intro wx hSw; obtain ⟨s0, s1⟩ := hSw; go_simp; first | done | with_reducible rfl)
        try simp only [Act.put, List.setIfInBounds_toArray, List.set_cons_zero, List.set_cons_succ]
        refine wpAnyH_take (i := 11) (oi := ⟨some 43, _, _, _, _, none⟩) (v := ?_) rfl (by kernel_rfl) (by kernel_rfl) (by kernel_rfl) (fun _ _ _ h => h) (Or.inl ⟨by kernel_rfl, ?_⟩) hSx ?_
        rotate_left 1
        focus (intro wx hSw; obtain ⟨s0, s1⟩ := hSw; go_simp; first | done | with_reducible rfl)
        try simp only [Act.put, List.setIfInBounds_toArray, List.set_cons_zero, List.set_cons_succ]
        refine wpAnyH_take (i := 12) (oi := ⟨some 44, _, _, _, _, none⟩) (v := ?_) rfl (by kernel_rfl) (by kernel_rfl) (by kernel_rfl) (fun _ _ _ h => h) (Or.inl ⟨by kernel_rfl, ?_⟩) hSx ?_
        rotate_left 1
        focus (intro wx hSw; obtain ⟨s0, s1⟩ := hSw; go_simp; first | done | with_reducible rfl)
        try simp only [Act.put, List.setIfInBounds_toArray, List.set_cons_zero, List.set_cons_succ]
        refine wpAnyH_ready (rs := [1]) (by kernel_rfl) (by simp) ?_
        refine AllReadyH.cons (o := ⟨some 33, _, _, _, _, none⟩) rfl (fun KK hKK => ?_) AllReadyH.nil
        go_simp
        have HE1 : Hid ((w1.drew.alloc (.cells #[] 24)).ownsRow w1.heap.size 24 1 (.slice (some ⟨w1.heap.size, 0, none⟩) 0 0) 0 []) := Lib.hid (empty_own w1.drew 24 1)
        have HR1 : Hid (Below w1.heap.size w1 (w1.drew.alloc (.cells #[] 24))) := Lib.hid ((below_drew (Below.refl _ _)).alloc (Nat.le_refl _) _)
        have HSA := Lib.hid (HST1.out.belowed HR1.out)
        have HOA := Lib.hid (own_below HO1.out HR1.out)
        refine hKK.out _ _ (HCS.out _ HSA.out.below) (fun hSy => ?_)
        clear hKK hSx
        have hSx := hSy
        clear hSy KK
        try simp only [Act.put, List.setIfInBounds_toArray, List.set_cons_zero, List.set_cons_succ]
        refine wpAnyH_ready (rs := [13]) (by kernel_rfl) (by simp) ?_
        refine AllReadyH.cons (o := ⟨some 45, _, _, _, _, none⟩) rfl (fun KK hKK => ?_) AllReadyH.nil
        refine if_wanted rfl ?_
        refine oper_append_at (.tmp 33) (.tmp 44) _ rfl w1.heap.size 24 i24 _ 1 4 Try.underlying30 I24.out Z24.out S24.out Y24.out rfl (by decide) _ 0 [] rfl HE1.out a3 m yc (idL (yl.take m)) rfl (by rw [idL_len, List.length_take]; omega) (HNW.out _ HSA.out.below) (idL_one _) (by simp only [maxLen]; omega) (by omega) HR1.out.size ?_
        intro v2 w2 ho2 hg2
        rw [show (0 + m) = (yl.take m).length by rw [List.length_take]; omega, List.nil_append] at ho2
        obtain ⟨CA, Cc, rfl⟩ := own_slice ho2
        have HX2 : Hid (OwnI w2 w1.heap.size (.slice CA (yl.take m).length Cc) (yl.take m)) := Lib.hid ho2
        have HLV : Hid (lsV ⟨CA, Cc, yl.take m⟩ = .slice CA m Cc) := Lib.hid (by unfold lsV; rw [List.length_take]; congr 1; omega)
        have HSB := Lib.hid (HSA.out.grown hg2 (fun j e => (HE1.out.lt j e).1))
        have HOB := Lib.hid (HOA.out.kept hg2 (own_ne HOA.out HE1.out (by decide)))
        clear ho2 hg2
        refine hKK.out _ _ (HCS.out _ HSB.out.below) (fun hSy => ?_)
        clear hKK hSx
        have hSx := hSy
        clear hSy KK
        try simp only [Act.put, List.setIfInBounds_toArray, List.set_cons_zero, List.set_cons_succ]
        refine wpAnyH_ready (rs := [14]) (by kernel_rfl) (by simp) ?_
        refine AllReadyH.cons (o := ⟨some 46, _, _, _, _, none⟩) rfl (fun KK hKK => ?_) AllReadyH.nil
        go_simp
        have HSC := Lib.hid (HSB.out.belowed ((Below.refl _ _).alloc (Nat.le_refl _) (.cells #[.slice CA m Cc] 30)))
        have HOC := Lib.hid (HOB.out.alloc (.cells #[.slice CA m Cc] 30))
        refine hKK.out _ _ (HCS.out _ HSC.out.below) (fun hSy => ?_)
        clear hKK hSx
        have hSx := hSy
        clear hSy KK
        try simp only [Act.put, List.setIfInBounds_toArray, List.set_cons_zero, List.set_cons_succ]
        refine wpAnyH_ready (rs := [15]) (by kernel_rfl) (by simp) ?_
        refine AllReadyH.cons (o := ⟨some 47, _, _, _, _, none⟩) rfl (fun KK hKK => ?_) AllReadyH.nil
        refine if_wanted rfl ?_
        refine oper_append_at (.tmp 32) (.tmp 46) _ rfl w.heap.size 30 i30 _ 1 24 Try.underlying23 I30.out Z30.out S30.out Y30.out rfl (by decide) _ vs.length (lsL vs) rfl (HSB.out.orow.alloc (.cells #[.slice CA m Cc] 30)) ⟨w2.heap.size, 0, none⟩ 1 1 [lsV ⟨CA, Cc, yl.take m⟩] rfl rfl (by rw [HLV.out]; exact new1 _ _ _ _ (rfl)) (by rw [HLV.out]; simp [Value.oneCell']) (by have := HVL.out; simp only [maxLen]; omega) (by have := HVL.out; omega) HSC.out.below.size ?_
        intro v4 w4 ho4 hg4
        obtain ⟨DA, Dc, rfl⟩ := own_slice ho4
        have HS4 := Lib.hid (HSB.out.push (x := ⟨CA, Cc, yl.take m⟩) HX2.out rfl ho4 hg4)
        have HO4 := Lib.hid (HOC.out.kept hg4 (own_ne HOC.out HSC.out.orow (by decide)))
        clear ho4 hg4
        refine hKK.out _ _ (HCS.out _ HS4.out.below) (fun hSy => ?_)
        clear hKK hSx
        have hSx := hSy
        clear hSy KK
        try simp only [Act.put, List.setIfInBounds_toArray, List.set_cons_zero, List.set_cons_succ]
        refine wpAnyH_take (i := 16) (oi := ⟨some 7, _, _, _, _, none⟩) (v := ?_) rfl (by kernel_rfl) (by kernel_rfl) (by kernel_rfl) (fun _ _ _ h => h) (Or.inl ⟨by kernel_rfl, ?_⟩) hSx ?_
        rotate_left 1
        focus (intro wx hSw; obtain ⟨s0, s1⟩ := hSw; go_simp; first | done | with_reducible rfl)
        try simp only [Act.put, List.setIfInBounds_toArray, List.set_cons_zero, List.set_cons_succ]
        refine wpAnyH_done (by kernel_rfl) ?_ _
        have HTM : Hid (yl.take 12 = yl.take m) := Lib.hid (by
          by_cases h : yl.length ≤ 12
          · rw [List.take_of_length_le h, List.take_of_length_le (by omega)]
          · rw [show m = 12 by omega])
        go_wp2_with fail
        go_roundg (20 - (k + 1))
        case measure => rw [HK.out]; omega
        case rel => exact ⟨k + 1, vs ++ [⟨CA, Cc, yl.take m⟩], by omega, by omega, by omega, rfl, by go_num, by rw [List.length_append, HVL.out]; rfl, by rw [HCUT.out, ← HIDS.out, HTM.out]; simp [ids], HO4.out, HS4.out⟩
    · have HLK : Hid ((hs.take k).length = k) := Lib.hid (by rw [List.length_take]; omega)
      by_cases h1 : k < hs.length
      · have h1i : (k : Int) < (hs.length : Int) := by omega
        by_cases h2 : k < ls.length
        · have h2i : (k : Int) < (ls.length : Int) := by omega
          have h3i : ¬ (k : Int) < 20 := by omega
          clear hlt
          go_wp2_with fail
          refine bodyPost_ret (results_tmp2 rfl _ _ _) rfl ?_
          exact ⟨k, XA, XC, VA, VC, vs, by omega, by rw [HLK.out]; rfl, by rw [HLK.out, HVL.out], HIDS.out, by rw [HLK.out]; exact HRO.out, HST.out⟩
        · have h2i : ¬ (k : Int) < (ls.length : Int) := by omega
          clear hlt
          go_wp2_with fail
          refine bodyPost_ret (results_tmp2 rfl _ _ _) rfl ?_
          exact ⟨k, XA, XC, VA, VC, vs, by omega, by rw [HLK.out]; rfl, by rw [HLK.out, HVL.out], HIDS.out, by rw [HLK.out]; exact HRO.out, HST.out⟩
      · have h1i : ¬ (k : Int) < (hs.length : Int) := by omega
        clear hlt
        go_wp2_with fail
        refine bodyPost_ret (results_tmp2 rfl _ _ _) rfl ?_
        exact ⟨k, XA, XC, VA, VC, vs, by omega, by rw [HLK.out]; rfl, by rw [HLK.out, HVL.out], HIDS.out, by rw [HLK.out]; exact HRO.out, HST.out⟩
end Go.Proofs.Ytijdkgklajdbnaa
