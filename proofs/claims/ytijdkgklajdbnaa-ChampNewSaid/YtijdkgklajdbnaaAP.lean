/- The walk over ask. -/
import Derived.Test.YtijdkgklajdbnaaAO
import Derived.Deep.DeepCutAuto
namespace Go.Proofs.Ytijdkgklajdbnaa
open Go.RowKit
/-- while it is asked -/
structure AskSt (gf : Nat) (cb : Array Value) (tl : Fp → List Id) (Inv : List Fp → World → Prop) (T : World → Nat → Prop) (w : World) (S : List Fp) (sv : Value) (B : Nat) (W : World) (done : List Fp) (v : Value) (vs : List Lst) : Prop where
  look : Look gf cb tl Inv T
  inv : Inv done W
  chg : Chg T w W
  srow : W.ownsRow w.heap.size 29 32 sv S.length (fsL S)
  ssafe : Safe T W sv
  orow : W.ownsRow w.heap.size 30 1 v vs.length (lsL vs)
  osafe : Safe T W v
  laid : Laid T W w.heap.size vs
  bW : B ≤ W.heap.size
  bw : w.heap.size ≤ B
  bs : ∀ b, sv.ownBlock = some b → b < B
  bo : ∀ b, v.ownBlock = some b → b < B
  bl : ∀ x ∈ vs, ∀ b, (Value.slice x.A x.l.length x.c).ownBlock = some b → b < B
section
variable {gf : Nat} {cb : Array Value} {tl : Fp → List Id} {Inv : List Fp → World → Prop} {T : World → Nat → Prop} {w : World} {S : List Fp} {sv : Value} {B : Nat} {W W' : World} {done done' : List Fp} {v : Value} {vs : List Lst}
theorem AskSt.top (h : AskSt gf cb tl Inv T w S sv B W done v vs) : AskSt gf cb tl Inv T w S sv W.heap.size W done v vs :=
  { h with bW := Nat.le_refl _, bw := h.chg.size, bs := fun b hb => (h.srow.lt b hb).2, bo := fun b hb => (h.orow.lt b hb).2, bl := fun x hx b hb => ((h.laid x hx).1.lt b hb).2 }
theorem AskSt.asked (h : AskSt gf cb tl Inv T w S sv B W done v vs) (hc : Chg T W W') (hi : Inv done' W') : AskSt gf cb tl Inv T w S sv B W' done' v vs :=
  { h with inv := hi, chg := h.chg.trans hc, srow := (own_chg h.srow h.ssafe hc).1, ssafe := (own_chg h.srow h.ssafe hc).2, orow := (own_chg h.orow h.osafe hc).1, osafe := (own_chg h.orow h.osafe hc).2, laid := h.laid.chg hc, bW := Nat.le_trans h.bW hc.size }
theorem AskSt.grown (h : AskSt gf cb tl Inv T w S sv B W done v vs) {row : Option Nat} (hg : W.grownBy W' row) (hr : ∀ b, row = some b → ¬ T W b) (hB : ∀ b, row = some b → B ≤ b) : AskSt gf cb tl Inv T w S sv B W' done v vs := by
  have hT := (h.look.keep done W W' row h.inv hg hr).2
  have ne : ∀ {u : Value}, (∀ b, u.ownBlock = some b → b < B) → (u.ownBlock = none ∨ u.ownBlock ≠ row) := fun {u} hu => by
    cases hq : u.ownBlock with
    | none => exact .inl rfl
    | some b => exact .inr (fun e => by have := hu b hq; have := hB b e.symm; omega)
  refine { h with inv := (h.look.keep done W W' row h.inv hg hr).1, chg := ?_, srow := h.srow.kept hg (ne h.bs), ssafe := fun b hb ht => h.ssafe b hb (hT b ht), orow := h.orow.kept hg (ne h.bo), osafe := fun b hb ht => h.osafe b hb (hT b ht), laid := h.laid.kept h.look h.inv hg hr (fun x hx => ne (h.bl x hx)), bW := Nat.le_trans h.bW hg.size }
  refine ⟨hg.os.trans h.chg.os, hg.tape.trans h.chg.tape, hg.output.trans h.chg.output, Nat.le_trans h.chg.size hg.size, fun b hb ht => ?_, fun b hb => h.chg.touch b (hT b hb)⟩
  by_cases e : some b = row
  · exfalso
    have h1 := hB b e.symm
    have h2 := h.bw
    omega
  · rw [hg.block b (Nat.lt_of_lt_of_le hb h.chg.size) e]
    exact h.chg.block b hb ht
theorem AskSt.below (h : AskSt gf cb tl Inv T w S sv B W done v vs) (hb : Below W.heap.size W W') : AskSt gf cb tl Inv T w S sv B W' done v vs :=
  h.grown (grown_of_below hb) (fun b e => by cases e) (fun b e => by cases e)
end
section
variable {gf : Nat} {cb : Array Value} {tl : Fp → List Id} {Inv : List Fp → World → Prop} {T : World → Nat → Prop} {w : World} {S : List Fp} {sv : Value} {B : Nat} {W W1 W2 : World} {done : List Fp} {v v' : Value} {vs : List Lst}
/-- one more list is laid -/
theorem AskSt.push (h : AskSt gf cb tl Inv T w S sv B W done v vs) {x : Lst} (hx : OwnI W B (.slice x.A x.l.length x.c) x.l) (hxs : Safe T W (.slice x.A x.l.length x.c)) {o : Obj} (h1 : W1 = W.alloc o)
    (hown : W2.ownsRow w.heap.size 30 1 v' (vs.length + 1) (lsL vs ++ [lsV x])) (hg : W1.grownBy W2 v.ownBlock) (hat : v'.ownBlock = v.ownBlock ∨ v'.ownBlock = some W1.heap.size) : AskSt gf cb tl Inv T w S sv W2.heap.size W2 done v' (vs ++ [x]) := by
  subst h1
  have hb : Below W.heap.size W (W.alloc o) := (Below.refl _ _).alloc (Nat.le_refl _) _
  have h2 := h.below hb
  have hk0 := h.look.keep done W (W.alloc o) none h.inv (grown_of_below hb) (fun b e => by cases e)
  have hrT : ∀ b, v.ownBlock = some b → ¬ T (W.alloc o) b := fun b e ht => h2.osafe b e ht
  have hk := h2.look.keep done _ _ _ h2.inv hg hrT
  have hxo : OwnI (W.alloc o) w.heap.size (.slice x.A x.l.length x.c) x.l := own_below (own_mono hx h.bw) hb
  have hxs2 : Safe T (W.alloc o) (.slice x.A x.l.length x.c) := fun b e ht => hxs b e (hk0.2 b ht)
  have hl3 : Laid T (W.alloc o) w.heap.size (vs ++ [x]) := fun y hy => by
    rcases List.mem_append.1 hy with hy | hy
    · exact h2.laid y hy
    · rw [List.mem_singleton] at hy; subst hy; exact ⟨hxo, hxs2⟩
  have hl4 : Laid T W2 w.heap.size (vs ++ [x]) := hl3.kept h2.look h2.inv hg hrT (fun y hy => own_ne (hl3 y hy).1 h2.orow (by decide))
  have hs4 := h2.srow.kept hg (own_ne h2.srow h2.orow (by decide))
  refine { look := h.look, inv := hk.1, chg := ?_, srow := hs4, ssafe := fun b e ht => h2.ssafe b e (hk.2 b ht), orow := ?_, osafe := fun b e ht => ?_, laid := hl4, bW := Nat.le_refl _, bw := Nat.le_trans h2.chg.size hg.size, bs := fun b e => (hs4.lt b e).2, bo := fun b e => (hown.lt b e).2, bl := fun y hy b e => ((hl4 y hy).1.lt b e).2 }
  · exact (Chg.of_grown h2.look h2.chg h2.inv hg hrT (fun b e => (h2.orow.lt b e).1)).1
  · rw [List.length_append, lsL_snoc]; exact hown
  · rcases hat with e2 | e2
    · exact h2.osafe b (by rw [← e2]; exact e) (hk.2 b ht)
    · rw [e2] at e
      have := h2.look.lt done _ b h2.inv (hk.2 b ht)
      cases e
      omega
end
theorem ds41 {w : World} {base : Nat} {A : Option Addr} {c : Nat} {l : List Id} (h : OwnI w base (.slice A l.length c) (ord key l)) (hn : l.length ≤ 12) :
    Calls Try.prog 41 #[.slice A l.length c] w fun e w' => ∃ c', e = .returned (.slice A (dsL l).length c') ∧ OwnI w' base (.slice A (dsL l).length c') (dsL l) ∧ w.grownBy w' (Value.slice A l.length c).ownBlock ∧ ∀ b, (Value.slice A (dsL l).length c').ownBlock = some b → (Value.slice A l.length c).ownBlock = some b := by
  have e1 : l.length = (ord key l).length := (ord_len key l).symm
  have h2 : OwnI w base (.slice A (ord key l).length c) (ord key l) := by rw [← e1]; exact h
  have hc := compact41 h2 (by omega)
  rw [← e1] at hc
  refine hc.mono ?_
  rintro e w' ⟨c', q1, q2, q3⟩
  rw [e1] at q1 q2
  exact ⟨c', q1, q2, q3, fun b hb => by cases A with | none => cases hb | some a => exact hb⟩
def askI (tl : Fp → List Id) (hs : List Fp) : List (List Id) := (setF hs).map fun x => dsL (tl x)
set_option maxRecDepth 100000 in
set_option maxHeartbeats 4000000 in
theorem ask29 {gf : Nat} {cb : Array Value} {tl : Fp → List Id} {Inv : List Fp → World → Prop} {T : World → Nat → Prop} {A : Option Addr} {c : Nat} {hs : List Fp} {w : World} (hL : Look gf cb tl Inv T) (hi : Inv [] w) (h : Fps w A hs) (ha : AllFp hs) (hn : hs.length ≤ 1000) (hA : AOk A hs.length) :
    Calls Try.prog 29 #[.slice A hs.length c, .func (.func gf) #[] cb] w fun e w' => ∃ B d vs, e = .returned (.slice B vs.length d) ∧ ids vs = askI tl hs ∧ w'.ownsRow w.heap.size 30 1 (.slice B vs.length d) vs.length (lsL vs) ∧ Inner w' vs ∧ (∀ x ∈ vs, x.l.length ≤ 12) ∧ Inv (setF hs) w' ∧ Chg T w w' := by
  have HS := Lib.hid (set47 (c := c) h ha (by omega) hA)
  have HAS := Lib.hid (setF_fp ha)
  have hsl : (setF hs).length ≤ 1000 := by have := setF_len hs; omega
  have HTI : Hid (∀ k x, (setF hs)[k]? = some x → (askI tl hs).take (k + 1) = (askI tl hs).take k ++ [dsL (tl x)]) := Lib.hid (fun k x h => by
    rw [List.take_add_one]
    unfold askI
    rw [List.getElem?_map, h]
    rfl)
  have HTE : Hid ((askI tl hs).take (setF hs).length = askI tl hs) := Lib.hid (by
    rw [show (setF hs).length = (askI tl hs).length by unfold askI; rw [List.length_map], List.take_length])
  have HSTK : Hid (∀ (k : Nat) (x : Fp), (setF hs)[k]? = some x → (setF hs).take (k + 1) = (setF hs).take k ++ [x]) := Lib.hid (fun k x h => by rw [List.take_add_one, h]; rfl)
  have HSE : Hid ((setF hs).take (setF hs).length = setF hs) := Lib.hid (List.take_length ..)
  have HLK := Lib.hid hL
  have HINV := Lib.hid hi
  have heg := hL.eg
  have HN : Hid ((setF hs).length ≤ 1000) := Lib.hid hsl
  have hfn := func_neq_nil (.func gf) #[] cb
  generalize askI tl hs = R at *
  generalize setF hs = S at *
  obtain ⟨i0, hi, hz0, hz1, hz2⟩ := info_parts info30
  have I0 := Lib.hid hi
  have Z0 := Lib.hid hz0
  have S0 := Lib.hid hz1
  have Y0 := Lib.hid hz2
  clear h ha hL hi hz0 hz1 hz2
  go_enter Try.func29, Try.ntmps29
  go_wp2_with fail
  refine Calls.mono HS.out ?_
  rintro e w1 ⟨SA, sc, rfl, hso, hb1⟩
  have HST0 : Hid (AskSt gf cb tl Inv T w S (.slice SA S.length sc) w1.heap.size w1 [] (.slice none 0 0) []) := Lib.hid (by
    have hk := HLK.out.keep [] w w1 none HINV.out (grown_of_below hb1) (fun b e => by cases e)
    exact { look := HLK.out, inv := hk.1, chg := ⟨hb1.os, hb1.tape, hb1.output, hb1.size, fun b hb _ => hb1.block b hb, fun b hb => .inl (hk.2 b hb)⟩, srow := hso, ssafe := safe_new HLK.out HINV.out hk.2 hso (Nat.le_refl _), orow := World.ownsRow_nil _ _ _ _, osafe := (fun b e => by cases e), laid := (fun x hx => nomatch hx), bW := Nat.le_refl _, bw := hb1.size, bs := (fun b e => (hso.lt b e).2), bo := (fun b e => by cases e), bl := (fun x hx => nomatch hx) })
  clear hso hb1
  go_wp2_with fail
  go_loopg [5, 12] S.length (fun gk v i wr => ∃ (k : Nat) (vs : List Lst), k ≤ S.length ∧ gk = S.length - k ∧ i = .int .i64 k ∧ vs.length = k ∧ ids vs = R.take k ∧ (∀ x ∈ vs, x.l.length ≤ 12) ∧ AskSt gf cb tl Inv T w S (.slice SA S.length sc) wr.heap.size wr (S.take k) v vs)
  case atStart => exact ⟨0, [], Nat.zero_le _, rfl, rfl, rfl, by simp [ids], (fun x hx => nomatch hx), HST0.out⟩
  case round =>
    obtain ⟨k, vs, hk, hgk, rfl, hvl, hids, h12, hst⟩ := hrel
    obtain ⟨VA, VC, rfl⟩ := own_slice hst.orow
    have HK := Lib.hid hgk
    have HVL := Lib.hid hvl
    have HIDS := Lib.hid hids
    have H12 := Lib.hid h12
    have HST := Lib.hid hst
    clear hgk hvl hids h12 hst
    have hk0 : (0 : Int) ≤ (k : Int) := by omega
    by_cases hlt : k < S.length
    · obtain ⟨x, hx⟩ : ∃ x, S[k]? = some x := ⟨_, List.getElem?_eq_getElem hlt⟩
      have HXF := Lib.hid (HAS.out x (List.mem_of_getElem? hx))
      obtain ⟨b, o, rfl, _, hr⟩ := Fps.get (row_own HST.out.srow) HAS.out hx
      have HRW := Lib.hid hr
      have HIX := Lib.hid (info29f HXF.out)
      have HIX2 : Hid ((Try.prog.info? 29).map (·.size) = some (fpL x).toArray.size) := Lib.hid (by rw [List.size_toArray]; exact HIX.out)
      have HSZX : Hid (#[Value.int .u8 0, Value.int .u8 0, Value.int .u8 0, Value.int .u8 0, Value.int .u8 0, Value.int .u8 0, Value.int .u8 0, Value.int .u8 0, Value.int .u8 0, Value.int .u8 0, Value.int .u8 0, Value.int .u8 0, Value.int .u8 0, Value.int .u8 0, Value.int .u8 0, Value.int .u8 0, Value.int .u8 0, Value.int .u8 0, Value.int .u8 0, Value.int .u8 0, Value.int .u8 0, Value.int .u8 0, Value.int .u8 0, Value.int .u8 0, Value.int .u8 0, Value.int .u8 0, Value.int .u8 0, Value.int .u8 0, Value.int .u8 0, Value.int .u8 0, Value.int .u8 0, Value.int .u8 0].size = (fpL x).toArray.size) := Lib.hid (by rw [show (fpL x).toArray.size = 32 by rw [List.size_toArray, fpL_length HXF.out]]; rfl)
      have HONX : Hid ((fpL x).toArray.all (·.oneCell') = true) := Lib.hid (all_oneCell_toArray fpL_one)
      have HTK := Lib.hid (HTI.out k x hx)
      have HSK := Lib.hid (HSTK.out k x hx)
      have HB1 : Hid (Below wr.heap.size wr (wr.alloc (.cells (fpL x).toArray 29))) := Lib.hid ((Below.refl _ _).alloc (Nat.le_refl _) _)
      have HST1 := Lib.hid (HST.out.below HB1.out)
      have HRB := Lib.hid (range_new wr x 29 _ rfl)
      have HCALL := Lib.hid (HLK.out.call (S.take k) x _ (by rw [List.length_take]; have := HN.out; omega) HST1.out.inv HXF.out)
      have hk1 : (k : Int) < (S.length : Int) := by omega
      clear hx hr
      go_wp2_with (first
        | ((with_reducible refine wpList_load_mid (op := ⟨some 15, _, _, _, _, _⟩) rfl 29 (.tmp 14) rfl b (o + k * 32) ?_ (fpL x) _ HRW.out Try.underlying29 rfl HIX.out ?_); rfl)
        | ((with_reducible refine wpList_store_new (op := ⟨none, .store _ _ _, _, _, _, _⟩) rfl 29 (.tmp 7) (.tmp 15) rfl _ (fpL x).toArray ?_ ?_ HIX2.out HSZX.out HONX.out ?_); rfl; rfl)
        | ((with_reducible refine wpList_load_mid (op := ⟨some 19, _, _, _, _, _⟩) rfl 29 (.tmp 7) rfl wr.heap.size 0 ?_ (fpL x) _ HRB.out Try.underlying29 rfl HIX.out ?_); rfl)
        | (go_at_fn gf; refine Calls.mono HCALL.out ?_; rintro e w2 ⟨L, rfl, htl, hli, hlo, hl12, hinv2, hchg2⟩; have HTL := Lib.hid htl; have HLI := Lib.hid hli; have HLO := Lib.hid hlo; have HL12 := Lib.hid hl12; have HST2 := Lib.hid (HST1.out.asked hchg2 hinv2).top; clear htl hli hlo hl12 hinv2 hchg2)
        | (go_at_call 39; refine Calls.mono (clone39 HLI.out HLO.out (by have := HL12.out; omega)) ?_; rintro e w3 ⟨CB, cd, rfl, ho3, hb3⟩; have HO3 := Lib.hid ho3; have HB3 := Lib.hid hb3; have HST3 := Lib.hid (HST2.out.below hb3); have HSF3 := Lib.hid (safe_new HLK.out HST2.out.inv (HLK.out.keep _ _ _ none HST2.out.inv (grown_of_below hb3) (fun b e => by cases e)).2 ho3 (Nat.le_refl _)); clear ho3 hb3))
      have hl12 := HL12.out
      have hCN : ∀ b, (Value.slice CB L.l.length cd).ownBlock = some b → w2.heap.size ≤ b := fun b e => (HO3.out.lt b e).1
      have HCN := Lib.hid hCN
      clear hCN
      go_wp2_with (first
        | (go_at_call 40; refine Calls.mono (sort40 HO3.out HL12.out) ?_; rintro e w4 ⟨rfl, ho4, hg4⟩; have HO4 := Lib.hid ho4; have HST4 := Lib.hid (HST3.out.grown hg4 HSF3.out HCN.out); have HSF4 : Hid (Safe T w4 (.slice CB L.l.length cd)) := Lib.hid (fun b e ht => HSF3.out b e ((HLK.out.keep _ _ _ _ HST3.out.inv hg4 HSF3.out).2 b ht)); clear ho4 hg4)
        | (go_at_call 41; refine Calls.mono (ds41 HO4.out HL12.out) ?_; rintro e w5 ⟨c', rfl, ho5, hg5, hat5⟩; have HO5 := Lib.hid ho5; have HST5 := Lib.hid (HST4.out.grown hg5 HSF4.out HCN.out); have HSF5 : Hid (Safe T w5 (.slice CB (dsL L.l).length c')) := Lib.hid (fun b e ht => HSF4.out b (hat5 b e) ((HLK.out.keep _ _ _ _ HST4.out.inv hg5 HSF4.out).2 b ht)); clear ho5 hg5 hat5)
        | (at_builtin; refine wpList_append_own_at _ rfl (.tmp 24) (.tmp 27) _ rfl w.heap.size 30 i0 _ 1 24 Try.underlying23 I0.out Z0.out S0.out Y0.out rfl (by decide) _ vs.length (lsL vs) rfl (HST5.out.orow.alloc _) _ 1 1 [lsV ⟨CB, c', dsL L.l⟩] rfl rfl (cell_one_new _ _ _) (by simp [lsV, Value.oneCell']) (by have := HVL.out; have := HN.out; simp only [maxLen]; omega) (by have := HVL.out; have := HN.out; omega) (by have := HST5.out.chg.size; simp at this ⊢; omega) ?_; intro v' w6 ho6 hg6 _ hat6; have HO6 := Lib.hid ho6; have HST6 := Lib.hid (HST5.out.push (x := ⟨CB, c', dsL L.l⟩) HO5.out HSF5.out rfl ho6 hg6 hat6); clear ho6 hg6 hat6))
      obtain ⟨VA', VC', rfl⟩ := own_slice HO6.out
      go_roundg (S.length - (k + 1))
      refine ⟨k + 1, vs ++ [⟨CB, c', dsL L.l⟩], by omega, rfl, rfl, by rw [List.length_append, HVL.out]; rfl, ?_, ?_, ?_⟩
      · rw [show ids (vs ++ [(⟨CB, c', dsL L.l⟩ : Lst)]) = ids vs ++ [dsL L.l] by simp [ids], HIDS.out, HTK.out, HTL.out]
      · intro y hy
        rcases List.mem_append.1 hy with hy | hy
        · exact H12.out y hy
        · rw [List.mem_singleton] at hy; subst hy; exact Nat.le_trans (dsL_len _) HL12.out
      · rw [HSK.out]; exact HST6.out
      · have := HK.out; omega
    · obtain rfl : k = S.length := by omega
      have HE : Hid (ids vs = R) := Lib.hid (by rw [HIDS.out, HTE.out])
      have hst := HST.out
      rw [HSE.out] at hst
      have HSTF := Lib.hid hst
      clear hst
      go_wp2_with fail
      go_ret
      exact ⟨VA, VC, vs, rfl, HE.out, HSTF.out.orow, HSTF.out.laid.inner, H12.out, HSTF.out.inv, HSTF.out.chg⟩
end Go.Proofs.Ytijdkgklajdbnaa
