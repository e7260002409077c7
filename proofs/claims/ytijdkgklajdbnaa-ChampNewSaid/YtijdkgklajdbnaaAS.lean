/- The walk over Ranks. -/
import Derived.Test.YtijdkgklajdbnaaAR
namespace Go.Proofs.Ytijdkgklajdbnaa
open Go.RowKit
open Go.Sort Go.Lib
open Go.Maps
/-- while the lists are laid -/
structure RkSt (w : World) (B : Nat) (W : World) (v : Value) (vs : List Lst) : Prop where
  below : Below w.heap.size w W
  orow : W.ownsRow w.heap.size 30 1 v vs.length (lsL vs)
  laid : ∀ x ∈ vs, OwnI W w.heap.size (.slice x.A x.l.length x.c) x.l
  bW : B ≤ W.heap.size
  bw : w.heap.size ≤ B
  bo : ∀ b, v.ownBlock = some b → b < B
  bl : ∀ x ∈ vs, ∀ b, (Value.slice x.A x.l.length x.c).ownBlock = some b → b < B
theorem RkSt.top {w W : World} {B : Nat} {v : Value} {vs : List Lst} (h : RkSt w B W v vs) : RkSt w W.heap.size W v vs :=
  { h with bW := Nat.le_refl _, bw := h.below.size, bo := fun b hb => (h.orow.lt b hb).2, bl := fun x hx b hb => ((h.laid x hx).lt b hb).2 }
theorem RkSt.start (w : World) : RkSt w w.heap.size w (.slice none 0 0) [] :=
  { below := Below.refl _ _, orow := World.ownsRow_nil _ _ _ _, laid := (fun x hx => nomatch hx), bW := Nat.le_refl _, bw := Nat.le_refl _, bo := (fun b e => by cases e), bl := (fun x hx => nomatch hx) }
theorem RkSt.grown {w W W' : World} {B : Nat} {v : Value} {vs : List Lst} (h : RkSt w B W v vs) {row : Option Nat} (hg : W.grownBy W' row) (hB : ∀ b, row = some b → B ≤ b) : RkSt w B W' v vs := by
  have ne : ∀ {u : Value}, (∀ b, u.ownBlock = some b → b < B) → (u.ownBlock = none ∨ u.ownBlock ≠ row) := fun {u} hu => by
    cases hq : u.ownBlock with
    | none => exact .inl rfl
    | some b => exact .inr (fun e => by have := hu b hq; have := hB b e.symm; omega)
  exact { h with below := h.below.grown hg h.below.size (fun j hj => Nat.le_trans h.bw (hB j hj)), orow := h.orow.kept hg (ne h.bo), laid := fun x hx => (h.laid x hx).kept hg (ne (h.bl x hx)), bW := Nat.le_trans h.bW hg.size }
theorem RkSt.belowed {w W W' : World} {B : Nat} {v : Value} {vs : List Lst} (h : RkSt w B W v vs) (hb : Below W.heap.size W W') : RkSt w B W' v vs := h.grown (grown_of_below hb) (fun b e => by cases e)
theorem RkSt.push {w W W1 W2 : World} {B : Nat} {v v' : Value} {vs : List Lst} (h : RkSt w B W v vs) {x : Lst} (hx : OwnI W B (.slice x.A x.l.length x.c) x.l) {o : Obj} (h1 : W1 = W.alloc o)
    (hown : W2.ownsRow w.heap.size 30 1 v' (vs.length + 1) (lsL vs ++ [lsV x])) (hg : W1.grownBy W2 v.ownBlock) : RkSt w W2.heap.size W2 v' (vs ++ [x]) := by
  subst h1
  have hb : Below W.heap.size W (W.alloc o) := (Below.refl _ _).alloc (Nat.le_refl _) _
  have h2 := h.belowed hb
  have hxo : OwnI (W.alloc o) w.heap.size (.slice x.A x.l.length x.c) x.l := own_below (own_mono hx h.bw) hb
  have hl3 : ∀ y ∈ vs ++ [x], OwnI (W.alloc o) w.heap.size (.slice y.A y.l.length y.c) y.l := fun y hy => by
    rcases List.mem_append.1 hy with hy | hy
    · exact h2.laid y hy
    · rw [List.mem_singleton] at hy; subst hy; exact hxo
  have hl4 : ∀ y ∈ vs ++ [x], OwnI W2 w.heap.size (.slice y.A y.l.length y.c) y.l := fun y hy => (hl3 y hy).kept hg (own_ne (hl3 y hy) h2.orow (by decide))
  refine { below := h2.below.grown hg h2.below.size (fun j hj => (h2.orow.lt j hj).1), orow := ?_, laid := hl4, bW := Nat.le_refl _, bw := Nat.le_trans h2.below.size hg.size, bo := fun b e => (hown.lt b e).2, bl := fun y hy b e => ((hl4 y hy).lt b e).2 }
  rw [List.length_append, lsL_snoc]; exact hown
theorem ranges_le {P : Program} {k : TypeId} {R : Value → Option (DataW Unit × List MemPlace)} {w : World} {b r n : Nat} {D : DataW Unit} {left : Lit → Bool} {cnt : Nat} (h : w.ranges P k R b r n D left cnt) : cnt ≤ n := by
  obtain ⟨es, _, _, seen, _, _, _, hn, _, _, _, hc, _⟩ := h
  refine Nat.le_trans ?_ hn
  rw [← hc]
  unfold leftOf
  exact Array.size_filter_le ..
/-- the numbers of lists -/
def rankF (L : List (List Id)) : Id → Nat := cntF (L.map dsL).flatten
theorem idok_wf {x : Id} (h : (Lit.int .u32 x).wf = true) : IdOk x := by
  change (decide (IntKind.u32.min ≤ x) && decide (x ≤ IntKind.u32.max)) = true at h
  rw [Bool.and_eq_true, decide_eq_true_eq, decide_eq_true_eq] at h
  exact ⟨h.1, h.2⟩
theorem rankF_pos {L : List (List Id)} {x : Id} : 0 < rankF L x ↔ ∃ l ∈ L, x ∈ l := by
  unfold rankF cntF
  rw [List.count_pos_iff, List.mem_flatten]
  constructor
  · rintro ⟨m, hm, hx⟩
    obtain ⟨l, hl, rfl⟩ := List.mem_map.1 hm
    exact ⟨l, hl, dsL_mem.1 hx⟩
  · rintro ⟨l, hl, hx⟩
    exact ⟨dsL l, List.mem_map.2 ⟨l, hl, rfl⟩, dsL_mem.2 hx⟩
theorem Met.nodup {D : DataW Unit} {left : Lit → Bool} {xs : List Id} {x : Id} (h : Met D left xs) (hn : xs.Nodup) (hl : left (.int .u32 x) = true) : (xs ++ [x]).Nodup := by
  have hx : x ∉ xs := fun hx => by
    have := ((h x).1 hx).2
    rw [hl] at this
    cases this
  rw [List.nodup_append]
  refine ⟨hn, by simp, fun a ha b hb e => ?_⟩
  rw [List.mem_singleton] at hb
  subst hb; subst e
  exact hx ha
set_option maxRecDepth 100000 in
theorem clone39_zero (a : Addr) (c : Nat) (w : World) : Calls Try.prog 39 #[.slice (some a) 0 c] w fun e w' => ∃ B d, e = .returned (.slice B 0 d) ∧ OwnI w' w.heap.size (.slice B 0 d) [] ∧ Below w.heap.size w w' := by
  obtain ⟨i24, hi, hz0, hz1, hz2⟩ := info_parts info24
  have I24 := Lib.hid hi
  have Z24 := Lib.hid hz0
  have S24 := Lib.hid hz1
  have Y24 := Lib.hid hz2
  clear hi hz0 hz1 hz2
  have HE := Lib.hid (empty_own w 24 1)
  have HB : Hid (Below w.heap.size w (w.alloc (.cells #[] 24))) := Lib.hid ((Below.refl _ _).alloc (Nat.le_refl _) _)
  have qe : ∀ (w : World) (a : Option Addr) (n c n' c' : Nat), (binOp .eql 30 (.slice a n c) (.slice none n' c')).run Try.prog w = .ok (.bool a.isNone) w := fun w a n c n' c' => Lib.run_eql_slice_nil w _ _ a n c n' c' Try.underlying30
  go_enter Try.func39, Try.ntmps39
  go_wp2_with (first
    | (at_builtin; refine wpList_append_own_at _ rfl (.tmp 5) (.tmp 6) _ rfl w.heap.size 24 i24 _ 1 4 Try.underlying30 I24.out Z24.out S24.out Y24.out rfl (by decide) _ 0 [] rfl HE.out a 0 c [] rfl rfl (fun j u hj => by cases hj) (fun u hu => by cases hu) (by simp [maxLen]) (by simp) HB.out.size ?_))
  intro v' w' ho hg _ _
  obtain ⟨B, d, rfl⟩ := own_slice ho
  have HO := Lib.hid ho
  have HG := Lib.hid (HB.out.grown hg HB.out.size (fun j e => (HE.out.lt j e).1))
  clear ho hg
  go_wp2_with fail
  go_ret
  exact ⟨B, d, rfl, HO.out, HG.out⟩
theorem clone39g {A : Option Addr} {c : Nat} {l : List Id} {w : World} (h : Ids w A l) (hn : l.length ≤ 1000000) :
    Calls Try.prog 39 #[.slice A l.length c] w fun e w' => ∃ B d, e = .returned (.slice B l.length d) ∧ OwnI w' w.heap.size (.slice B l.length d) l ∧ Below w.heap.size w w' := by
  cases l with
  | nil =>
    cases A with
    | none => exact clone39 h (.inl ⟨rfl, rfl⟩) hn
    | some a => exact clone39_zero a c w
  | cons y r =>
    obtain ⟨b, o, e, _⟩ := h (by simp [idL])
    exact clone39 h (.inr ⟨b, o, e⟩) hn
set_option maxRecDepth 100000 in
set_option maxHeartbeats 4000000 in
theorem ranks26 {A : Option Addr} {c : Nat} {ls : List Lst} {w : World} (h : Ls w A ls) (hn : ls.length ≤ 1000) (h12 : ∀ x ∈ ls, x.l.length ≤ 12) (hid : ∀ x ∈ ls, ∀ y ∈ x.l, IdOk y) :
    Calls Try.prog 26 #[.slice A ls.length c] w fun e w' => ∃ B d R, e = .returned (.slice B R.length d) ∧ RankIs (rankF (ids ls)) R ∧ Ids w' B R ∧ AOk B R.length ∧ Below w.heap.size w w' := by
  have HG : Hid (∀ W, Below w.heap.size w W → ∀ k x, ls[k]? = some x → ∃ b o, A = some ⟨b, o, none⟩ ∧ b < W.heap.size ∧ W.cell? ⟨b, o + k, none⟩ = some (.slice x.A x.l.length x.c) ∧ Ids W x.A x.l ∧ x.l.length ≤ x.c) := Lib.hid (fun W hW k x hk => (h.below hW).get hk)
  have H12 := Lib.hid h12
  have HID := Lib.hid hid
  have HTI : Hid (∀ k x, ls[k]? = some x → ((ids ls).map dsL).take (k + 1) = ((ids ls).map dsL).take k ++ [dsL x.l]) := Lib.hid (fun k x h => by
    rw [List.take_add_one, List.getElem?_map, ids_get h]
    rfl)
  have HTE : Hid (((ids ls).map dsL).take ls.length = (ids ls).map dsL) := Lib.hid (by
    rw [show ls.length = ((ids ls).map dsL).length by rw [List.length_map, ids_len], List.take_length])
  have HRF : Hid (∀ x, 0 < rankF (ids ls) x ↔ ∃ l ∈ ids ls, x ∈ l) := Lib.hid (fun x => rankF_pos)
  have HF : Hid (cntF ((ids ls).map dsL).flatten = rankF (ids ls)) := Lib.hid rfl
  have HIM : Hid (∀ l ∈ (ids ls).map dsL, ∀ y ∈ l, IdOk y) := Lib.hid (fun l hl y hy => by
    obtain ⟨m, hm, rfl⟩ := List.mem_map.1 hl
    obtain ⟨x, hx, rfl⟩ := List.mem_map.1 hm
    exact hid x hx y (dsL_mem.1 hy))
  generalize (ids ls).map dsL = R at *
  generalize rankF (ids ls) = f at *
  obtain ⟨i0, hi, hz0, hz1, hz2⟩ := info_parts info30
  have I0 := Lib.hid hi
  have Z0 := Lib.hid hz0
  have S0 := Lib.hid hz1
  have Y0 := Lib.hid hz2
  clear hi hz0 hz1 hz2
  obtain ⟨j0, hi, hz0, hz1, hz2⟩ := info_parts info24
  have J0 := Lib.hid hi
  have ZJ0 := Lib.hid hz0
  have SJ0 := Lib.hid hz1
  have YJ0 := Lib.hid hz2
  clear h h12 hid hi hz0 hz1 hz2
  go_enter Try.func26, Try.ntmps26
  go_wp2_with fail
  go_loopg [3, 12] ls.length (fun gk v i wr => ∃ (k : Nat) (vs : List Lst), k ≤ ls.length ∧ gk = ls.length - k ∧ i = .int .i64 k ∧ vs.length = k ∧ ids vs = R.take k ∧ (∀ x ∈ vs, x.l.length ≤ 12) ∧ RkSt w wr.heap.size wr v vs)
  case atStart => exact ⟨0, [], Nat.zero_le _, rfl, rfl, rfl, by simp [ids], (fun x hx => nomatch hx), RkSt.start w⟩
  case round =>
    obtain ⟨k, vs, hk, hgk, rfl, hvl, hids, h12, hst⟩ := hrel
    obtain ⟨VA, VC, rfl⟩ := own_slice hst.orow
    have HK := Lib.hid hgk
    have HVL := Lib.hid hvl
    have HIDS := Lib.hid hids
    have HV12 := Lib.hid h12
    have HST := Lib.hid hst
    clear hgk hvl hids h12 hst
    have hk0 : (0 : Int) ≤ (k : Int) := by omega
    by_cases hlt : k < ls.length
    · obtain ⟨x, hx⟩ : ∃ x, ls[k]? = some x := ⟨_, List.getElem?_eq_getElem hlt⟩
      obtain ⟨b, o, rfl, _, c1, hli, _⟩ := HG.out wr HST.out.below k x hx
      have HLI := Lib.hid hli
      have HL12 := Lib.hid (H12.out x (List.mem_of_getElem? hx))
      have HTK := Lib.hid (HTI.out k x hx)
      obtain ⟨LA, Lc, L⟩ := x
      simp only at *
      have hl12 := HL12.out
      have hk1 : (k : Int) < (ls.length : Int) := by omega
      clear hx hli
      go_wp2_with (first
        | (go_at_call 39; refine Calls.mono (clone39g HLI.out (by have := HL12.out; omega)) ?_; rintro e w3 ⟨CB, cd, rfl, ho3, hb3⟩; have HO3 := Lib.hid ho3; have HST3 := Lib.hid (HST.out.belowed hb3); clear ho3 hb3)
        | (go_at_call 40; refine Calls.mono (sort40 HO3.out HL12.out) ?_; rintro e w4 ⟨rfl, ho4, hg4⟩; have HO4 := Lib.hid ho4; have HST4 := Lib.hid (HST3.out.grown hg4 (fun b e => (HO3.out.lt b e).1)); clear ho4 hg4)
        | (go_at_call 41; refine Calls.mono (ds41 HO4.out HL12.out) ?_; rintro e w5 ⟨c', rfl, ho5, hg5, hat5⟩; have HO5 := Lib.hid ho5; have HST5 := Lib.hid (HST4.out.grown hg5 (fun b e => (HO4.out.lt b e).1)); clear ho5 hg5 hat5)
        | (at_builtin; refine wpList_append_own_at _ rfl (.tmp 20) (.tmp 23) _ rfl w.heap.size 30 i0 _ 1 24 Try.underlying23 I0.out Z0.out S0.out Y0.out rfl (by decide) _ vs.length (lsL vs) rfl (HST5.out.orow.alloc _) _ 1 1 [lsV ⟨CB, c', dsL L⟩] rfl rfl (cell_one_new _ _ _) (by simp [lsV, Value.oneCell']) (by have := HVL.out; simp only [maxLen]; omega) (by have := HVL.out; omega) (by have := HST5.out.below.size; simp at this ⊢; omega) ?_; intro v' w6 ho6 hg6 _ hat6; have HO6 := Lib.hid ho6; have HST6 := Lib.hid (HST5.out.push (x := ⟨CB, c', dsL L⟩) HO5.out rfl ho6 hg6); clear ho6 hg6 hat6))
      obtain ⟨VA', VC', rfl⟩ := own_slice HO6.out
      go_roundg (ls.length - (k + 1))
      case measure => rw [HK.out]; omega
      case rel =>
        refine ⟨k + 1, vs ++ [⟨CB, c', dsL L⟩], by omega, rfl, by go_num, by rw [List.length_append, HVL.out]; rfl, ?_, ?_, HST6.out⟩
        · rw [show ids (vs ++ [(⟨CB, c', dsL L⟩ : Lst)]) = ids vs ++ [dsL L] by simp [ids], HIDS.out, HTK.out]
        · intro y hy
          rcases List.mem_append.1 hy with hy | hy
          · exact HV12.out y hy
          · rw [List.mem_singleton] at hy; subst hy; exact Nat.le_trans (dsL_len _) HL12.out
    · obtain rfl : k = ls.length := by omega
      have HE : Hid (ids vs = R) := Lib.hid (by rw [HIDS.out, HTE.out])
      have HLS : Hid (Ls wr VA vs) := Lib.hid ⟨row_own HST.out.orow, fun x hx => ⟨row_own (HST.out.laid x hx), own_cap (HST.out.laid x hx)⟩⟩
      have HC28 := Lib.hid (counts28 (c := VC) HLS.out (by have := HVL.out; omega) (fun x hx => by have := HV12.out x hx; omega) (fun x hx y hy => HIM.out x.l (by rw [← HE.out]; exact List.mem_map.2 ⟨x, hx, rfl⟩) y hy))
      rw [HE.out, HF.out] at HC28
      go_wp2_with (first
        | (go_at_call 28; refine Calls.mono HC28.out ?_; rintro e w2 ⟨mb, rfl, ⟨n, D, hn2, hcm, hown⟩, hmb, hb2⟩; have HCM := Lib.hid hcm; have HOW : Hid ((w2.alloc (.cells #[.map (some mb)] 49)).ownsMap Try.prog 24 (plainElem Try.prog 3) mb n D) := Lib.hid (hown.kept (World.grownBy_alloc w2 _ none) (by simp)); have HML := Lib.hid hown.lt; have HW2 := Lib.hid (Nat.le_trans HST.out.below.size hb2.size); have HB2 : Hid (Below w.heap.size w (w2.alloc (.cells #[.map (some mb)] 49))) := Lib.hid ((HST.out.below.trans (hb2.mono HST.out.below.size)).alloc (Nat.le_trans HST.out.below.size hb2.size) _); clear hcm hown hmb hb2)
        | (at_range; refine wpList_range_own _ rfl _ 49 rfl 24 3 law24 Try.underlying49 _ mb n _ rfl HOW.out ?_; intro w0 hrg0 hg0 hs0; simp only [World.size_alloc] at hrg0 hs0 ⊢)
        | go_in)
      have hwr := HST.out.below.size
      have HCELL : Hid (w0.cell? ⟨w2.heap.size, 0, none⟩ = some (.map (some mb))) := Lib.hid (by
        rw [hg0.cell_far ⟨w2.heap.size, 0, none⟩ (by simp) (by simp)]
        simp)
      have HSZ := Lib.hid hs0
      have HB0 : Hid (Below w.heap.size w w0) := Lib.hid (HB2.out.grown hg0 HB2.out.size (fun j hj => by cases hj))
      have HRG := Lib.hid hrg0
      clear hrg0 hg0 hs0
      go_frame
      go_loopw [8] (fun v wr => ∃ (left : Lit → Bool) (cnt : Nat) (xs : List Id), wr.ranges Try.prog 24 (plainElem Try.prog 3) mb (w2.heap.size + 1) n D left cnt ∧ Met D left xs ∧ xs.Nodup ∧ (∀ x ∈ xs, IdOk x) ∧ xs.length + cnt ≤ n ∧ wr.ownsRow w0.heap.size 24 1 v xs.length (idL xs) ∧ wr.cell? ⟨w2.heap.size, 0, none⟩ = some (.map (some mb)) ∧ Below w.heap.size w wr ∧ w0.heap.size ≤ wr.heap.size)
        (fun _ wr => wr.rangeLeft mb (w2.heap.size + 1))
      case atStart => exact ⟨_, _, [], HRG.out, Met.start D, List.nodup_nil, (fun x hx => nomatch hx), by have := ranges_le HRG.out; simpa using this, World.ownsRow_nil _ _ _ _, HCELL.out, HB0.out, Nat.le_refl _⟩
      case round =>
        obtain ⟨left, cnt, xs, hrg, hmet, hnd, hxo, hln, hrow, hcl, hnx, hsz⟩ := hrel
        obtain ⟨XA, XC, rfl⟩ := own_slice hrow
        have HRW := Lib.hid hrow
        have HCL := Lib.hid hcl
        have HNX := Lib.hid hnx
        have HMET := Lib.hid hmet
        have HND := Lib.hid hnd
        have HXO := Lib.hid hxo
        have HLN := Lib.hid hln
        clear hrow hnx hmet hnd hxo hln
        go_wp2_with (first
          | (at_next; refine wpList_next_ranges_ii _ rfl _ rfl 24 3 .u32 .i64 law24 Try.underlying24 Try.underlying3 mb (w2.heap.size + 1) n _ _ _ rfl hrg ?_ ?_)
          | go_in)
        · intro _ hl0
          have hmem : ∀ x, x ∈ xs ↔ 0 < f x := fun x => by
            rw [HMET.out x, (HCM.out.2 x).2, hl0]
            simp
          have HMEM := Lib.hid hmem
          have HC42 : Hid (Calls Try.prog 42 #[.slice XA xs.length XC, .func (.func 43) #[] #[.pointer (some ⟨w2.heap.size, 0, none⟩)]] wr fun e w' => e = .returned (.tuple #[]) ∧ ∃ R, R.length = xs.length ∧ RankIs f R ∧ Ids w' XA R ∧ AOk XA R.length ∧ Below w.heap.size w w') := Lib.hid (by
            have hw0 := HB0.out.size
            have hs0 := HSZ.out
            rcases HRW.out.2 with ⟨e0, hn0⟩ | ⟨g, cap, cur, e0, hgb, _, _, _, _, _⟩
            · injection e0 with e1 e2 e3
              subst e1
              obtain rfl := List.length_eq_zero_iff.1 hn0
              refine (sort42_none none XC _ wr).mono ?_
              rintro e w' ⟨rfl, rfl⟩
              exact ⟨rfl, [], rfl, ⟨hmem, List.Pairwise.nil⟩, Ids.nil _ _, .inl ⟨rfl, rfl⟩, HNX.out⟩
            · injection e0 with e1 e2 e3
              subst e1; subst e3
              refine (sort42 (f := f) (b := mb) (g0 := w2.heap.size) HRW.out HXO.out HND.out ⟨n, D, hn2, HCM.out, hrg.owns⟩ hcl (by omega) (by have := HML.out; omega) (by have := HLN.out; omega)).mono ?_
              rintro e w' ⟨rfl, R, hrl, hrm, hrp, hro, hrg'⟩
              exact ⟨rfl, R, hrl, ⟨fun x => (hrm x).trans (hmem x), hrp⟩, row_own hro, aok_own hro, HNX.out.grown hrg' HNX.out.size (fun j hj => by cases hj; omega)⟩)
          clear hl0 hmem hcl
          go_wp2_with (first
            | (go_at_call 42; refine Calls.mono HC42.out ?_; rintro e w9 ⟨rfl, R9, hrl, hrk, hri, hra, hrb⟩; have HRK := Lib.hid hrk; have HRI := Lib.hid hri; have HRA := Lib.hid hra; have HRB := Lib.hid hrb; have HRL := Lib.hid hrl; clear hrk hri hra hrb hrl))
          refine bodyPost_ret (results_tmp rfl _ _ _) rfl ?_
          exact ⟨XA, XC, R9, by rw [HRL.out]; rfl, HRK.out, HRI.out, HRA.out, HRB.out⟩
        · intro x c w1 cnt1 hwx hwc hlx hat hrg1 hlt hg1 hs1 hen
          have hhas : Maps.has D (.int .u32 x) = true := has_true_of_atKey hat
          have HMS := Lib.hid (HMET.out.step hhas)
          have HNS := Lib.hid (HMET.out.nodup HND.out hlx)
          have hxb := fun b e => (HRW.out.lt b e).1
          have hw2 := HW2.out
          have hw0 := HB0.out.size
          have hs0 := HSZ.out
          have HN1 : Hid (Below w.heap.size w w1) := Lib.hid (HNX.out.grown hg1 HNX.out.size (fun j hj => by cases hj; omega))
          have HRW1 : Hid (w1.ownsRow w0.heap.size 24 1 (.slice XA xs.length XC) xs.length (idL xs)) := Lib.hid (HRW.out.kept hg1 (by
            cases hq : (Value.slice XA xs.length XC).ownBlock with
            | none => exact .inl rfl
            | some b => exact .inr (fun e => by have := hxb b hq; cases e; omega)))
          have HCL1 : Hid (w1.cell? ⟨w2.heap.size, 0, none⟩ = some (.map (some mb))) := Lib.hid (by
            rw [hg1.cell_far ⟨w2.heap.size, 0, none⟩ (by show w2.heap.size < _; omega) (by simp)]
            exact hcl)
          have HRG1 := Lib.hid hrg1
          have HIO := Lib.hid (idok_wf hwx)
          have HLT := Lib.hid (And.intro hlt (And.intro hrg.left_eq trivial))
          have hsz1 : w0.heap.size ≤ w1.heap.size := by rw [hs1]; exact hsz
          clear hat hhas hwx hwc hlx hg1 hs1 hrg1 hcl
          go_wp2_with (first
            | (at_builtin; refine wpList_append_own_at _ rfl (.tmp 34) (.tmp 36) _ rfl w0.heap.size 24 j0 _ 1 4 Try.underlying30 J0.out ZJ0.out SJ0.out YJ0.out rfl (by decide) _ xs.length (idL xs) rfl (HRW1.out.alloc _) _ 1 1 [.int .u32 x] rfl rfl (cell_one_new _ _ _) (by simp [Value.oneCell']) (by have := HLN.out; simp only [maxLen]; omega) (by have := HLN.out; omega) (by simp; omega) ?_; intro v' w6 ho6 hg6 _ hat6; have HO6 := Lib.hid ho6; have HG6 : Hid ((w1.alloc (.cells #[.int .u32 x] 24)).grownBy w6 (Value.slice XA xs.length XC).ownBlock) := Lib.hid hg6; clear ho6 hg6 hat6)
            | go_in)
          obtain ⟨XB, XD, rfl⟩ := own_slice HO6.out
          have hxb1 := fun b e => (HRW1.out.lt b e).1
          have hml := HML.out
          have hw2 := HW2.out
          have ha : Below w1.heap.size w1 (w1.alloc (.cells #[.int .u32 x] 24)) := (Below.refl _ _).alloc (Nat.le_refl _) _
          have hga := grown_of_below ha
          have hrow : ∀ j, j < w0.heap.size → some j ≠ (Value.slice XA xs.length XC).ownBlock := fun j hj e => by have := hxb1 j e.symm; omega
          have hcl2 : w6.cell? ⟨w2.heap.size, 0, none⟩ = some (.map (some mb)) := by
            rw [HG6.out.cell_far ⟨w2.heap.size, 0, none⟩ (by show w2.heap.size < _; simp; omega) (hrow w2.heap.size (by omega)), hga.cell_far ⟨w2.heap.size, 0, none⟩ (by show w2.heap.size < _; omega) (by simp)]
            exact HCL1.out
          have HCL2 := Lib.hid hcl2
          have HRG2 : Hid (w6.ranges Try.prog 24 (plainElem Try.prog 3) mb (w2.heap.size + 1) n D (fun z => left z && !z.sameKey (.int .u32 x)) cnt1) := Lib.hid ((HRG1.out.alloc _).kept HG6.out (hrow _ (by omega)) (hrow _ (by omega)))
          have HN6 : Hid (Below w.heap.size w w6) := Lib.hid ((HN1.out.trans (ha.mono HN1.out.size)).grown HG6.out (HN1.out.trans (ha.mono HN1.out.size)).size (fun j hj => by have := hxb1 j hj; omega))
          have hs6 : w0.heap.size ≤ w6.heap.size := by
            have := HG6.out.size
            simp at this
            omega
          go_roundw
          case rel =>
            refine ⟨_, cnt1, xs ++ [x], HRG2.out, HMS.out, HNS.out, ?_, by rw [List.length_append]; have := HLN.out; have := HLT.out.1; show xs.length + 1 + cnt1 ≤ n; omega, ?_, HCL2.out, HN6.out, hs6⟩
            · intro y hy
              rcases List.mem_append.1 hy with hy | hy
              · exact HXO.out y hy
              · rw [List.mem_singleton] at hy; subst hy; exact HIO.out
            · have := HO6.out
              rw [List.length_append]
              unfold idL at *
              rw [List.map_append]
              exact this
          case measure => rw [HRG2.out.left_eq, HLT.out.2.1]; exact HLT.out.1
end Go.Proofs.Ytijdkgklajdbnaa
