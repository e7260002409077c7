/- The evaluator is sound: its lemmas, in order. -/
import Derived.Test.YtoffclpjhikjkaaGreatEvC
import Derived.RangeFuncNested
import Derived.RangeFuncLeaves
import Derived.Lib.UnsafeStr
import Derived.Room.MakeNoZero
import Derived.Below
set_option linter.unusedSimpArgs false
set_option linter.unusedVariables false
namespace Go.Proofs.YtoffclpjhikjkaaGreat.Ev
open Go
theorem stillA_t {ops : List Oper} {as : List (List Nat)} {done : List Nat} : ∀ {l : List Nat}, stillA ops as done l = true → ∀ i ∈ l, ∃ o, lget ops i = some o ∧ stillO ops (ancA as i) done o.op.operands.toList = true
  | [], _, i, h => by cases h
  | x :: l, h, i, hi => by
    unfold stillA at h
    rw [Bool.and_eq_true] at h
    rcases List.mem_cons.1 hi with q | q
    · subst q
      cases ho : lget ops i with
      | none => rw [ho] at h; exact absurd h.1 (by simp)
      | some o => rw [ho] at h; exact ⟨o, rfl, h.1⟩
    · exact stillA_t h.2 i q
def cnt : List Bool → Nat
  | [] => 0
  | b :: l => (if b then 0 else 1) + cnt l
theorem cnt_set : ∀ {l : List Bool} {i : Nat}, l[i]? = some false → cnt (l.set i true) + 1 = cnt l
  | [], i, h => by simp at h
  | b :: l, 0, h => by simp at h; subst h; simp [cnt]; omega
  | b :: l, i + 1, h => by
    simp at h
    have := cnt_set (l := l) (i := i) (by simpa using h)
    simp only [List.set_cons_succ, cnt]; omega
theorem cnt_zero : ∀ {l : List Bool}, cnt l = 0 → ∀ i, i < l.length → l[i]? = some true
  | [], _, i, h => absurd h (Nat.not_lt_zero _)
  | b :: l, h, i, hi => by
    unfold cnt at h
    have hb : b = true := by cases b <;> simp at h ⊢
    have hl : cnt l = 0 := by omega
    cases i with
    | zero => rw [hb]; rfl
    | succ i => simpa using cnt_zero hl i (by simpa using hi)
theorem cnt_rep : ∀ n : Nat, cnt (List.replicate n false) = n
  | 0 => rfl
  | n + 1 => by rw [List.replicate_succ]; unfold cnt; rw [cnt_rep n]; simp; omega
section
variable {P : Program} {rec : Rec} {nt : Nat} {rd : Option Nat} {ops : Array Oper}
variable {ρ0 ρ : Ren} {s0 s s' : St} {w0 w : World} {D : List Nat} {listed : Array Bool} {a : Act}
/-- an act -/
theorem Inv.actj (h : Inv P rec nt rd ops ρ0 s0 w0 D s listed ρ a w) (hc : Chk nt ops) {j : Nat} {o : Oper} (ho : ops[j]? = some o) (hj : j ∉ D) (hd : depIn D o = true) (hdep : ∀ e ∈ o.after.toList, Region.binds .any e = true → EE listed e.on) (hO : OpS P rec nt o) {s1 s3 : St} (hg : (opG P nt ops.toList o).f rec s = some s1)
    (hl : (looks P nt ops.toList (again ops.toList (ancs ops.toList []) j D)).f rec s1 = some s3) (hst : stillA ops.toList (ancs ops.toList []) D (again ops.toList (ancs ops.toList []) j D) = true) (K : Act → World → Prop) (Q : Exit → Act → World → Prop)
    (hK : ∀ ρ' a' w', Inv P rec nt rd ops ρ0 s0 w0 (j :: D) s3 (listed.setIfInBounds j true) ρ' a' w' → K a' w') : wpOpIn (FW rd) 0 P ops Q j K a w := by
  obtain ⟨rfl, hlk⟩ := looks_t hl
  have hnj : ¬ EE listed j := fun q => hj (h.ed j q)
  have hA := ee_anc h.cl ho hdep
  obtain ⟨hE, hG⟩ := h.ev hc ho hnj hdep (h.reads hc ho hj hd (tm' := s.tm) (fun _ _ _ => rfl))
  have hdst := (opG_inv hg).1
  refine opG_step ho hO hg h.wr hE hG K Q fun x v σ y w' e1 _ e3 e4 e5 _ => hK σ _ w' ?_
  subst e1
  have hil : j < listed.size := by rw [h.ls]; exact (Array.getElem?_eq_some_iff.1 ho).1
  have hne : ∀ t k, wrOf t ops.toList 0 = some k → k ≠ j → o.dst ≠ some t := fun t k hw hk e => by
    have := hc.wr ho e
    rw [hw] at this; injection this with this
    exact hk this
  obtain ⟨bn, b1, b2, b3⟩ := h.rcs
  refine ⟨by rw [Array.size_setIfInBounds]; exact h.ls, fun k hk => ?_, fun k ok hok hk e he hb => ?_, fun k ok hk hok hq => ?_, ⟨hj, ⟨o, ho, hd⟩, h.dok⟩, by rw [put_size]; exact h.sz, h.le, fun t z hz => ?_, fun t ht hk => ?_, h.same, by rw [put_defers]; exact h.ds.mono e5.le, h.rnd.mono e5.le, e4, h.stp.trans e5, bn, b1, fun k b q => ?_, fun k ok hk hnk hok => ?_⟩
  · rcases (ee_set hil).1 hk with e | e
    · rw [e]; exact List.mem_cons_self ..
    · exact List.mem_cons_of_mem _ (h.ed k e)
  · rcases (ee_set hil).1 hk with e' | e'
    · subst e'
      rw [Array.getElem?_toList, ho] at hok; injection hok with hok; subst hok
      exact (ee_set hil).2 (.inr (hdep e he hb))
    · exact (ee_set hil).2 (.inr (h.cl k ok hok e' e he hb))
  · rcases List.mem_cons.1 hk with e | e
    · exact (ee_set hil).2 (.inl e)
    · exact (ee_set hil).2 (.inr (h.act k ok e hok hq))
  · have htn : t < nt := by
      have := (Array.getElem?_eq_some_iff.1 hz).1
      rw [put_size, h.sz] at this; exact this
    by_cases hdt : o.dst = some t
    · have hw' := hc.wr ho hdt
      unfold tv
      rw [hw']
      dsimp only
      rw [if_pos ((ee_set hil).2 (.inl rfl)), tget_dst h.le hdst hdt]
      have e2 : z = y := by
        rw [hdt] at hz
        have hts : t < a.tmps.size := by rw [h.sz]; exact htn
        have : (a.tmps.setIfInBounds t y)[t]? = some z := hz
        rw [Array.getElem?_setIfInBounds_self_of_lt hts] at this
        injection this with this; exact this.symm
      rw [e2]; exact e3
    · have hz' : a.tmps[t]? = some z := by
        cases hd' : o.dst with
        | none => rw [hd'] at hz; exact hz
        | some d =>
          rw [hd'] at hz hdt
          have : (a.tmps.setIfInBounds d y)[t]? = some z := hz
          rw [Array.getElem?_setIfInBounds_ne (fun e => hdt (by rw [e]))] at this
          exact this
      have := h.tm t z hz'
      unfold tv at this ⊢
      cases hw' : wrOf t ops.toList 0 with
      | none => rw [hw'] at this; exact this.mono e5.le
      | some k =>
        rw [hw'] at this
        dsimp only at this ⊢
        have hkj : k ≠ j := fun e => by
          subst e
          obtain ⟨ok, hok, hdk⟩ := Chk.wr_ops hw'
          rw [ho] at hok; injection hok with hok; subst hok
          exact hdt hdk
        rw [getD_set_ne false (fun e => hkj e.symm), tget_put h.le hdst htn hdt]
        exact this.mono e5.le
  · have hn : o.dst ≠ some t := fun e => hk j (hc.wr ho e) (List.mem_cons_self ..)
    show tget ((putK o.dst).f s.tm x) t = _
    rw [tget_put h.le hdst ht hn]
    exact h.un t ht fun k q hkD => hk k q (List.mem_cons_of_mem _ hkD)
  · obtain ⟨m1, m2, m3, m4⟩ := b2 k b q
    exact ⟨List.mem_cons_of_mem _ m1, m2, Nat.lt_of_lt_of_le m3 e5.nx, fun hk => (e5.old b m3 (m4 (fun e => hk ((ee_set hil).2 (.inr e))))).1⟩
  · have hkj : k ≠ j := fun e => hnk ((ee_set hil).2 (.inl e))
    have hnk' : ¬ EE listed k := fun e => hnk ((ee_set hil).2 (.inr e))
    have hkD : k ∈ D := by
      rcases List.mem_cons.1 hk with e | e
      · exact absurd e hkj
      · exact e
    have hkA : k ∉ Aa ops j := fun q => hnk' (hA k q)
    have hkeep : ∀ t k', t < nt → wrOf t ops.toList 0 = some k' → k' ∈ D → tget ((putK o.dst).f s.tm x) t = tget s.tm t := fun t k' ht hw hk' => tget_put h.le hdst ht (hne t k' hw (fun e => hj (e ▸ hk')))
    obtain ⟨hq, hrec⟩ := b3 k ok hkD hnk' hok
    refine ⟨hq, ?_⟩
    rcases hrec with ⟨hl1, _⟩ | ⟨hl1, k0, trm, b, k1, k2, k3, k4⟩
    · have hlg : lget ops.toList k = some ok := by rw [lget_eq, Array.getElem?_toList]; exact hok
      have hag := again_mem (as := ancs ops.toList []) (j := j) hlg hl1 hkA hkD
      obtain ⟨ok', d, s2, q1, q2, q3, q4⟩ := hlk k hag
      rw [hok] at q1; injection q1 with q1; subst q1
      obtain ⟨ok', r1, r2⟩ := stillA_t hst k hag
      rw [hlg] at r1; injection r1 with r1; subst r1
      refine .inl ⟨hl1, _, s2, σ, w', q3, e4, Sub.refl _, ⟨fun t ht hm => ?_, fun _ _ _ _ _ _ _ _ => rfl⟩, fun d' hd' => ?_⟩
      · unfold tx
        cases hw' : wrOf t ops.toList 0 with
        | none =>
          dsimp only
          rw [tget_put h.le hdst ht (fun e => by rw [hc.wr ho e] at hw'; cases hw')]
          exact h.un t ht fun k' q => by rw [hw'] at q; cases q
        | some k' =>
          dsimp only
          by_cases hk' : k' ∈ Aa ops k
          · rw [if_pos hk']
          · rw [if_neg hk']
            have h1 : k ∈ Aa ops k' := by
              rcases hc.rdk hok hm hw' with q | q
              · exact absurd q hk'
              · exact q
            have h2 : k' ∉ D := by
              rcases stillO_t r2 t hm k' hw' with q | q
              · exact absurd q hk'
              · exact q
            rw [tget_put h.le hdst ht (hne t k' hw' (fun e => hkA (e ▸ h1)))]
            exact h.un t ht fun k'' q => by rw [hw'] at q; injection q with q; rw [← q]; exact h2
      · rw [q2] at hd'; injection hd' with hd'; subst hd'; exact q4
    · refine .inr ⟨hl1, k0, trm, b, k1, k2.mono hc h.dok hkD hok hkeep, fun q d hd' => ?_, fun q => ?_⟩
      · rw [hkeep d k (dst_lt k0 hd') (hc.wr hok hd') hkD]; exact k3 q d hd'
      · obtain ⟨nb, B, c, x', m1, m2, m3, m4, m5⟩ := k4 q
        obtain ⟨n1, n2, n3, n4⟩ := b2 k nb m3
        exact ⟨nb, B, c, x', m1, by rw [(e5.old nb n3 (n4 hnk')).2]; exact m2, m3, fun d hd' => by rw [hkeep d k (dst_lt k0 hd') (hc.wr hok hd') hkD]; exact m4 d hd', m5⟩
end
end Go.Proofs.YtoffclpjhikjkaaGreat.Ev
namespace Go.Proofs.YtoffclpjhikjkaaGreat.Ev
open Go
section
variable {P : Program} {rec : Rec} {nt : Nat} {rd : Option Nat} {ops : Array Oper}
variable {ρ0 ρ : Ren} {s0 s s' : St} {w0 w : World} {D : List Nat} {listed : Array Bool} {a : Act}
theorem drC_inv {i : Nat} {l : List Nat} (h : (drC P nt ops.toList (ancs ops.toList []) (i :: l) D).f rec s = some s') : ∃ o, ops[i]? = some o ∧ i ∉ D ∧ depIn D o = true ∧
    ((quiet o.op = true ∧ lookK o.op = true ∧ ∃ s2, (opG P nt ops.toList o).f rec (bigW s) = some s2 ∧ (drC P nt ops.toList (ancs ops.toList []) l (i :: D)).f rec ⟨(putK o.dst).f s.tm ((dstV o).f s2.tm), s.ds, s.w, s.rnd, s.df⟩ = some s') ∨
     (quiet o.op = true ∧ lookK o.op = false ∧ ∃ s2, (opG P nt ops.toList o).f rec s = some s2 ∧ (drC P nt ops.toList (ancs ops.toList []) l (i :: D)).f rec s2 = some s') ∨
     (quiet o.op = false ∧ onlyIs D i ops.toList 0 = true ∧ stillA ops.toList (ancs ops.toList []) D (again ops.toList (ancs ops.toList []) i D) = true ∧ ∃ s1 s3, (opG P nt ops.toList o).f rec s = some s1 ∧ (looks P nt ops.toList (again ops.toList (ancs ops.toList []) i D)).f rec s1 = some s3 ∧ (drC P nt ops.toList (ancs ops.toList []) l (i :: D)).f rec s3 = some s')) := by
  unfold drC at h
  rw [lget_eq, Array.getElem?_toList] at h
  cases ho : ops[i]? with
  | none => rw [ho] at h; cases h
  | some o =>
    rw [ho] at h
    dsimp only at h
    cases hm : (memN i D || !depIn D o) with
    | true => rw [hm] at h; cases h
    | false =>
      rw [hm] at h
      simp only [cond_false] at h
      rw [Bool.or_eq_false_iff, memN_f, Bool.not_eq_false'] at hm
      refine ⟨o, rfl, hm.1, hm.2, ?_⟩
      cases hq : quiet o.op with
      | true =>
        rw [hq] at h
        simp only [cond_true] at h
        cases hl : lookK o.op with
        | true =>
          rw [hl] at h
          obtain ⟨s2, h1, h2⟩ := seqO_some.1 h
          exact .inl ⟨rfl, rfl, s2, h1, h2⟩
        | false =>
          rw [hl] at h
          obtain ⟨s2, h1, h2⟩ := seqO_some.1 h
          exact .inr (.inl ⟨rfl, rfl, s2, h1, h2⟩)
      | false =>
        rw [hq] at h
        simp only [cond_false] at h
        cases hc : (onlyIs D i ops.toList 0 && stillA ops.toList (ancs ops.toList []) D (again ops.toList (ancs ops.toList []) i D)) with
        | false => rw [hc] at h; cases h
        | true =>
          rw [hc] at h
          rw [Bool.and_eq_true] at hc
          obtain ⟨s1, h1, h2⟩ := seqO_some.1 h
          obtain ⟨s3, h3, h4⟩ := seqO_some.1 h2
          exact .inr (.inr ⟨rfl, hc.1, hc.2, s1, s3, h1, h3, h4⟩)
theorem drC_nil (h : (drC P nt ops.toList (ancs ops.toList []) [] D).f rec s = some s') : s' = s ∧ ∀ i, i < ops.size → i ∈ D := by
  unfold drC at h
  cases hc : allIn D (upTo ops.toList.length) with
  | false => rw [hc] at h; cases h
  | true =>
    rw [hc] at h
    injection h with h
    exact ⟨h.symm, fun i hi => allIn_t.1 hc i (mem_upTo (by simpa using hi))⟩
/-- the plan goes on to the next act -/
theorem adv (hc : Chk nt ops) (hal : ∀ o ∈ ops.toList, quiet o.op = true → lookK o.op = false → ∀ s s', (opC P nt o).f rec s = some s' → AlOf P (opd nt o) o s s') : ∀ (l : List Nat) (D : List Nat) (s : St), Inv P rec nt rd ops ρ0 s0 w0 D s listed ρ a w → (drC P nt ops.toList (ancs ops.toList []) l D).f rec s = some s' →
    ∃ l1 D1 s1, Inv P rec nt rd ops ρ0 s0 w0 D1 s1 listed ρ a w ∧ (drC P nt ops.toList (ancs ops.toList []) l1 D1).f rec s1 = some s' ∧ (l1 = [] ∨ ∃ i l2 o, l1 = i :: l2 ∧ ops[i]? = some o ∧ quiet o.op = false)
  | [], D, s, hI, h => ⟨[], D, s, hI, h, .inl rfl⟩
  | i :: l, D, s, hI, h => by
    obtain ⟨o, ho, hi, hd, hh⟩ := drC_inv h
    rcases hh with ⟨hq, hl, s2, k1, k2⟩ | ⟨hq, hl, s2, k1, k2⟩ | ⟨hq, _⟩
    · exact adv hc hal l _ _ (hI.planL hc ho hi hd hq hl k1) k2
    · exact adv hc hal l _ _ (hI.planA hc ho hi hd hq hl (hal o (ops_mem ho) hq hl) k1) k2
    · exact ⟨i :: l, D, s, hI, h, .inr ⟨i, l, o, rfl, ho, hq⟩⟩
theorem not_ready {md : Region.Mode} (hr : Region.ready md ops listed = []) {i : Nat} {o : Oper} (ho : ops[i]? = some o) (hls : listed.size = ops.size) (hd : ∀ e ∈ o.after.toList, Region.binds md e = true → EE listed e.on) : EE listed i := by
  refine Classical.byContradiction fun hn => ?_
  have hi : i < listed.size := by rw [hls]; exact (Array.getElem?_eq_some_iff.1 ho).1
  have : i ∈ Region.ready md ops listed := mem_ready.2 ⟨by
    have h1 : listed.getD i false = false := by cases h : listed.getD i false with | true => exact absurd h hn | false => rfl
    simp [hi] at h1 ⊢; exact h1, o, ho, fun e he hb => hd e (Array.mem_toList_iff.2 he) hb⟩
  rw [hr] at this; cases this
theorem DOk.all {md : Region.Mode} (hr : Region.ready md ops listed = []) (hls : listed.size = ops.size) (hmd : md = .any) : ∀ {D : List Nat}, DOk ops D → ∀ i ∈ D, EE listed i
  | [], _, i, h => by cases h
  | j :: D, q, i, h => by
    have ih := DOk.all hr hls hmd q.2.2
    rcases List.mem_cons.1 h with e | e
    · subst e
      obtain ⟨o, ho, hd⟩ := q.2.1
      exact not_ready hr ho hls fun e he hb => ih _ (depIn_t.1 hd e he (hmd ▸ hb))
    · exact ih i e
theorem Inv.fin (h : Inv P rec nt rd ops ρ0 s0 w0 D s listed ρ a w) (hall : ∀ i ∈ D, EE listed i) (hD : ∀ i, i < ops.size → i ∈ D) : SR P ρ rd nt s a w := by
  refine ⟨h.sz, ⟨by rw [h.sz]; exact h.le, fun t x hx => ?_⟩, h.ds, h.wr, h.rnd⟩
  have := h.tm t x hx
  have ht : t < nt := by
    have := (Array.getElem?_eq_some_iff.1 hx).1
    rw [h.sz] at this; exact this
  unfold tv at this
  cases hw : wrOf t ops.toList 0 with
  | none =>
    rw [hw] at this
    rw [h.un t ht fun k q => by rw [hw] at q; cases q]; exact this
  | some k =>
    rw [hw] at this
    dsimp only at this
    obtain ⟨ok, hok, _⟩ := Chk.wr_ops hw
    rw [if_pos (hall k (hD k (Array.getElem?_eq_some_iff.1 hok).1))] at this
    exact this
/-- whatever order is drawn -/
theorem any_sound (hc : Chk nt ops) (hop : ∀ o ∈ ops.toList, OpS P rec nt o) (hal : ∀ o ∈ ops.toList, quiet o.op = true → lookK o.op = false → ∀ s s', (opC P nt o).f rec s = some s' → AlOf P (opd nt o) o s s') (Q : Exit → Act → World → Prop)
    (hQ : ∀ σ a' w', SR P σ rd nt s' a' w' → Stp ρ0 s0.w w0 σ s'.w w' → Q .normal a' w') : ∀ (fuel : Nat) (l D : List Nat) (s : St) (listed : Array Bool) (ρ : Ren) (a : Act) (w : World), Inv P rec nt rd ops ρ0 s0 w0 D s listed ρ a w → (drC P nt ops.toList (ancs ops.toList []) l D).f rec s = some s' → cnt listed.toList ≤ fuel →
    wpAnyIn (FW rd) 0 P .any ops Q fuel listed a w := by
  intro fuel
  have hfinal : ∀ (l D : List Nat) (s : St) (listed : Array Bool) (ρ : Ren) (a : Act) (w : World), Inv P rec nt rd ops ρ0 s0 w0 D s listed ρ a w → (drC P nt ops.toList (ancs ops.toList []) l D).f rec s = some s' → (l = [] ∨ ∃ i l2 o, l = i :: l2 ∧ ops[i]? = some o ∧ quiet o.op = false) → Region.ready .any ops listed = [] → Q .normal a w := fun l D s listed ρ a w hI h hl hr => by
    have hall := hI.dok.all hr hI.ls rfl
    rcases hl with rfl | ⟨i, l2, o, rfl, ho, hq⟩
    · obtain ⟨rfl, hD⟩ := drC_nil h
      exact hQ ρ a w (hI.fin hall hD) hI.stp
    · obtain ⟨o', ho', hi, hd, _⟩ := drC_inv h
      exact absurd (hI.ed i (not_ready hr ho' hI.ls fun e he hb => hall _ (depIn_t.1 hd e he hb))) hi
  induction fuel with
  | zero =>
    intro l D s listed ρ a w hI h hcnt
    have hr : Region.ready .any ops listed = [] := by
      rw [List.eq_nil_iff_forall_not_mem]
      intro i hi
      obtain ⟨h1, o, ho, _⟩ := mem_ready.1 hi
      have hil : i < listed.size := by rw [hI.ls]; exact (Array.getElem?_eq_some_iff.1 ho).1
      have := cnt_zero (Nat.le_zero.1 hcnt) i (by simpa using hil)
      rw [Array.getElem?_toList] at this
      have h2 : listed.getD i true = true := by rw [Array.getD_eq_getD_getElem?, this]; rfl
      rw [h2] at h1; cases h1
    obtain ⟨l1, D1, s1, k1, k2, k3⟩ := adv hc hal l D s hI h
    exact ⟨hr, hfinal l1 D1 s1 listed ρ a w k1 k2 k3 hr⟩
  | succ fuel ih =>
    intro l D s listed ρ a w hI0 h0 hcnt
    obtain ⟨l1, D1, s1, hI, h, hl⟩ := adv hc hal l D s hI0 h0
    refine ⟨fun hr => hfinal l1 D1 s1 listed ρ a w hI h hl hr, fun i hi => ?_⟩
    obtain ⟨h1, o, ho, hdep⟩ := mem_ready.1 hi
    have hil : i < listed.size := by rw [hI.ls]; exact (Array.getElem?_eq_some_iff.1 ho).1
    have hn : ¬ EE listed i := fun q => by
      have q' : listed.getD i false = true := q
      simp [hil] at h1 q'; rw [h1] at q'; cases q'
    have hf : listed.toList[i]? = some false := by
      rw [Array.getElem?_toList, Array.getElem?_eq_getElem hil]
      simp [hil] at h1; rw [h1]
    have hcnt' : cnt (listed.setIfInBounds i true).toList ≤ fuel := by
      rw [Array.toList_setIfInBounds]
      have := cnt_set hf; omega
    have hdep' : ∀ e ∈ o.after.toList, Region.binds .any e = true → EE listed e.on := fun e he hb => hdep e (Array.mem_toList_iff.1 he) hb
    by_cases hiD : i ∈ D1
    · exact hI.run hc ho hiD hn hdep' (hop o (ops_mem ho)) _ Q fun ρ' a' w' hI' => ih l1 D1 s1 _ ρ' a' w' hI' h hcnt'
    · rcases hl with rfl | ⟨i', l2, o', rfl, ho', hq'⟩
      · exact absurd ((drC_nil h).2 i (Array.getElem?_eq_some_iff.1 ho).1) hiD
      · obtain ⟨o2, ho2, hi2, hd2, hh⟩ := drC_inv h
        rw [ho'] at ho2; injection ho2 with ho2; subst ho2
        rcases hh with ⟨q, _⟩ | ⟨q, _⟩ | ⟨_, hon, hst, s2, s3, k1, k2, k3⟩
        · rw [hq'] at q; cases q
        · rw [hq'] at q; cases q
        · have hii : i = i' := by
            rcases onlyIs_t hon i o (by rw [Array.getElem?_toList]; exact ho) with q | q | q
            · omega
            · rw [Nat.zero_add] at q; exact absurd q hiD
            · have : depIn D1 o = true := depIn_t.2 fun e he hb => hI.ed _ (hdep' e he hb)
              rw [this] at q; cases q
          subst hii
          rw [ho] at ho'; injection ho' with ho'; subst ho'
          exact hI.actj hc ho hiD hd2 hdep' (hop o (ops_mem ho)) k1 k2 hst _ Q fun ρ' a' w' hI' => ih l2 _ s3 _ ρ' a' w' hI' k3 hcnt'
theorem draw_sound (hm : P.follows .mixedOrders = true) {id : Nat} (hop : ∀ o ∈ ops.toList, OpS P rec nt o) (hal : ∀ o ∈ ops.toList, quiet o.op = true → lookK o.op = false → ∀ s s', (opC P nt o).f rec s = some s' → AlOf P (opd nt o) o s s') (hle : nt ≤ 256) {Q : Exit → Act → World → Prop} {ρ : Ren} {s s' : St} {a : Act} {w : World} (h : (drawC P nt ops.toList).f rec s = some s') (hS : SR P ρ rd nt s a w)
    (hQ : ∀ σ a' w', SR P σ rd nt s' a' w' → Stp ρ s.w w σ s'.w w' → Q .normal a' w') : (Code.region id ops true).wpIn (FW rd) 0 P Q a w := by
  unfold drawC at h
  dsimp only at h
  cases hck : (onceT ops.toList && readsOk ops.toList (ancs ops.toList []) ops.toList 0) with
  | false => rw [hck] at h; cases h
  | true =>
    rw [hck] at h
    simp only [cond_true] at h
    rw [Bool.and_eq_true] at hck
    have hc : Chk nt ops := ⟨hck.1, hck.2⟩
    cases hor : order (qsOf ops.toList 0) ops.toList.length 0 [] with
    | none => rw [hor] at h; cases h
    | some l =>
      rw [hor] at h
      dsimp only at h
      refine wpIn_region_any hm ?_
      have hW1 : WR P ρ s.w { w with drawn := w.drawn + 1 } := hS.wr.drew rfl
      have hst : Stp ρ s.w w ρ s.w { w with drawn := w.drawn + 1 } := ⟨.refl _, Nat.le_refl _, fun _ _ h => ⟨h, rfl⟩, Nat.le_refl _, rfl, rfl, rfl, fun _ _ _ => rfl, fun _ h _ => h⟩
      have hee : ∀ i, ¬ EE (Array.replicate ops.size false) i := fun i q => by
        have q' : (Array.replicate ops.size false).getD i false = true := q
        rw [Array.getD_eq_getD_getElem?, Array.getElem?_replicate] at q'
        split at q' <;> cases q'
      have hI : Inv P rec nt rd ops ρ s w [] s (Array.replicate ops.size false) ρ a { w with drawn := w.drawn + 1 } := by
        refine ⟨by simp, fun i q => absurd q (hee i), fun i o _ q => absurd q (hee i), fun i o q => (by cases q), trivial, hS.sz, hle, fun t x hx => ?_, fun t _ _ => rfl, ⟨rfl, rfl, rfl⟩, hS.ds, hS.rnd, hW1, hst, fun _ => none, fun _ _ _ q => (by cases q), fun _ _ q => (by cases q), fun i o q => (by cases q)⟩
        have := hS.tm.2 t x hx
        unfold tv
        cases wrOf t ops.toList 0 with
        | none => exact this
        | some k => dsimp only; split <;> exact this
      exact any_sound hc hop hal Q hQ ops.size l [] s _ ρ a _ hI h (by rw [Array.toList_replicate, cnt_rep]; exact Nat.le_refl _)
end
end Go.Proofs.YtoffclpjhikjkaaGreat.Ev
namespace Go.Proofs.YtoffclpjhikjkaaGreat.Ev
open Go
section
variable {P : Program} {ρ : Ren} {v : AW} {w w' : World}
/-- a block that is no row of cells, written -/
theorem oth_put (h : WR P ρ v w) {b : Nat} {q q' : Oth} {t : Ent} {ob : Obj} (hb : v.bl.get b = some (.oth q)) (ht : ρ b = some t) (hw : Wr w w' t.blk ob) (hq : OR ρ q' ob) : WR P ρ (v.put b (.oth q')) w' ∧ Stp ρ v w ρ (v.put b (.oth q')) w' := by
  have hlt : b < big := Nat.lt_of_lt_of_le (h.nxB _ _ hb) h.nx
  have hget : ∀ j, (v.put b (.oth q')).bl.get j = if j = b then some (.oth q') else v.bl.get j := fun j => PT.get_set _ _ _ _ hlt
  obtain ⟨ob0, k1, k2, hsh⟩ := h.blk _ _ _ hb ht
  refine h.upd (B' := .oth q') hb ht hw trivial rfl rfl (by rw [hget, if_pos rfl]) ⟨ob, by rw [hw.heap, if_pos rfl], hq, hsh⟩ (fun j hj => .inl (by rw [hget, if_neg hj])) fun j B2 t2 hj h1 h2 h3 h4 => ?_
  cases B2 with
  | oth o2 => exact absurd (h.inj _ _ _ _ _ _ h2 hb h3 ht h4) hj
  | cells cs n e lo gp sh f hh =>
    obtain ⟨C, fz, m1, _⟩ := h.blk _ _ _ h2 h3
    rw [h4, k1] at m1; injection m1 with m1
    rw [m1] at k2
    exact absurd k2 OR.not_cells
theorem wr_set {k : Nat} {ob ob' : Obj} (h : w.heap[k]? = some ob') : Wr w { w with heap := w.heap.setIfInBounds k ob } k ob := by
  have hk := (Array.getElem?_eq_some_iff.1 h).1
  refine ⟨fun j => ?_, by simp, rfl, rfl, rfl⟩
  by_cases hj : j = k
  · subst hj; rw [if_pos rfl]; exact Array.getElem?_setIfInBounds_self_of_lt hk
  · rw [if_neg hj]; exact Array.getElem?_setIfInBounds_ne (fun e => hj e.symm)
theorem setLp_some {v' : AW} {l : Nat} {st : LoopState} {pd : Option Code → Option Code} {ok : LoopState → Bool} (h : setLp v l st pd ok = some v') : ∃ q p fn tm nt ps as b d, v.bl.get l = some (.oth (.loop q p fn tm nt ps as b d)) ∧ ok q = true ∧ v' = v.put l (.oth (.loop st (pd p) fn tm nt ps as b d)) := by
  unfold setLp at h
  obtain ⟨B, hB, h⟩ := seqO_some.1 h
  cases B with
  | cells => cases h
  | oth o =>
    cases o <;> first | (cases h; done) | skip
    rename_i q p fn tm nt ps as b d
    obtain ⟨h1, h2⟩ := ifB_some.1 h
    injection h2 with h2
    exact ⟨q, p, fn, tm, nt, ps, as, b, d, hB, h1, h2.symm⟩
/-- a loop's record, written -/
theorem setLp_run (h : WR P ρ v w) {v' : AW} {l : Nat} {st : LoopState} {pd : Option Code → Option Code} {ok : LoopState → Bool} (hs : setLp v l st pd ok = some v') {t : Ent} (ht : ρ l = some t) : ∃ r : Loop, w.heap[t.blk]? = some (.loop r) ∧ ok r.state = true ∧
    WR P ρ v' (w.putObj t.blk (.loop { r with state := st, pending := pd r.pending })) ∧ Stp ρ v w ρ v' (w.putObj t.blk (.loop { r with state := st, pending := pd r.pending })) := by
  obtain ⟨q, p, fn, tm, nt, ps, as, b, d, h1, h2, rfl⟩ := setLp_some hs
  obtain ⟨ob, k1, ⟨e, r, m1, rfl, m2, m3, m4, m5, m6, m7, m8, m9⟩, _⟩ := h.blk _ _ _ h1 ht
  refine ⟨r, k1, by rw [m2]; exact h2, ?_⟩
  exact oth_put h h1 ht (wr_set k1) ⟨e, _, m1, rfl, rfl, by rw [← m3], m4, m5, m6, m7, m8, m9⟩
theorem loop_of (h : WR P ρ v w) {l : Nat} {q : LoopState} {p : Option Code} {fn : FuncId} {tm : TM} {nt : Nat} {ps : Array Tmp} {as b : Code} {d : Nat} (hb : v.bl.get l = some (.oth (.loop q p fn tm nt ps as b d))) {t : Ent} (ht : ρ l = some t) : ∃ (e : Ent) (r : Loop), w.heap[t.blk]? = some (.loop r) ∧ ρ d = some e ∧ r.state = q ∧ r.pending = p ∧ TR ρ tm r.tmps ∧ r.params = ps ∧ r.assign = as ∧ r.body = b ∧ r.defers = e.blk ∧ r.tmps.size = nt := by
  obtain ⟨ob, k1, ⟨e, r, m1, rfl, m2⟩, _⟩ := h.blk _ _ _ hb ht
  exact ⟨e, r, k1, m1, m2⟩
end
end Go.Proofs.YtoffclpjhikjkaaGreat.Ev
namespace Go.Proofs.YtoffclpjhikjkaaGreat.Ev
open Go
def xo : Ex → Exit
  | .normal => .normal
  | .exit i => .exit i
  | .goto l => .goto l
  | .ret => .ret
/-- code, run -/
def CodeS (P : Program) (nt : Nat) (f : St → R2) (c : Code) : Prop := ∀ (rd : Option Nat) (ρ : Ren) (s s' : St) (e : Ex) (a : Act) (w : World), f s = some (e, s') → SR P ρ rd nt s a w →
  ∀ Q : Exit → Act → World → Prop, (∀ σ a' w', SR P σ rd nt s' a' w' → Stp ρ s.w w σ s'.w w' → Q (xo e) a' w') → c.wpIn (FW rd) 0 P Q a w
/-- a call, made -/
def CallR (P : Program) (g : FuncId) (xs : Array Value) (ρ : Ren) (aw : AW) (w : World) (v : AV) (aw' : AW) : Prop :=
  (hasB P g = true ∧ (∀ w1, (callFunc g xs).run P w1 = .ok (.enter g xs) w1) ∧ ∀ R : Ending → World → Prop, (∀ σ y w', VR σ v y → WR P σ aw' w' → Stp ρ aw w σ aw' w' → R (.returned y) w') → CallsIn (FW none) 0 P g xs w R) ∨
  (hasB P g = false ∧ ∃ σ y w', (callFunc g xs).run P w = .ok (.value y) w' ∧ VR σ v y ∧ WR P σ aw' w' ∧ Stp ρ aw w σ aw' w')
structure RecS (P : Program) (rec : Rec) : Prop where
  code : ∀ nt c, nt ≤ 256 → CodeS P nt (rec.code nt c) c
  call : ∀ (g : FuncId) (l : List AV) (aw : AW) (v : AV) (aw' : AW) (ρ : Ren) (xs : Array Value) (w : World), rec.call g l false aw = some (v, aw') → VRs ρ l xs.toList → WR P ρ aw w → CallR P g xs ρ aw w v aw'
section
variable {P : Program} {nt : Nat} {b : Frame} {a : Act} {k : List Item} {cs : List Frame} {w : World}
theorem stepR_scope {c : Code} : step P (lone (b.atR a (.code (.scope c) :: k)) cs w) = .next (lone (b.atR a (.code c :: .inScope c :: k)) cs w) :=
  step_lone_go (by simp [stepG, stepG.exec, Frame.atR])
theorem stepR_inScope {c : Code} : step P (lone (b.atR a (.inScope c :: k)) cs w) = .next (lone (b.atR a k) cs w) :=
  step_lone_go (by simp [stepG, stepG.exec, Frame.atR])
theorem fen {rd : Option Nat} (m : Machine) : m.fenced P (FW rd) := fenced_wide P m
theorem leaf_sound {c : Code} {e : Ex} (h : ∀ rd Q a w, Q (xo e) a w → c.wpIn (FW rd) 0 P Q a w) : CodeS P nt (fun s => some (e, s)) c := fun rd ρ s s' e' a w h0 hS Q hQ => by
  injection h0 with h0; injection h0 with h1 h2
  subst h1; subst h2
  exact h rd Q a w (hQ ρ a w hS (Stp.refl _ _ _))
theorem seq_sound {f g : St → R2} {x y : Code} (hf : CodeS P nt f x) (hg : CodeS P nt g y) : CodeS P nt (fun s => seqP (f s) fun e s => match e with
    | .normal => g s
    | .exit i => some (.exit i, s)
    | .goto i => some (.goto i, s)
    | .ret => some (.ret, s)) (.seq x y) := fun rd ρ s s' e a w h hS Q hQ => by
  obtain ⟨e1, s1, h1, h2⟩ := seqP_some.1 h
  refine wpIn_seq (hf rd ρ s s1 e1 a w h1 hS _ fun σ a1 w1 hS1 hst => ?_)
  cases e1 with
  | normal => exact hg rd σ s1 s' e a1 w1 h2 hS1 Q fun τ a2 w2 k1 k2 => hQ τ a2 w2 k1 (hst.trans k2)
  | exit i => injection h2 with h2; injection h2 with h2 h3; subst h2; subst h3; exact hQ σ a1 w1 hS1 hst
  | goto i => injection h2 with h2; injection h2 with h2 h3; subst h2; subst h3; exact hQ σ a1 w1 hS1 hst
  | ret => injection h2 with h2; injection h2 with h2 h3; subst h2; subst h3; exact hQ σ a1 w1 hS1 hst
theorem block_sound {f : St → R2} {i : Nat} {x : Code} (hf : CodeS P nt f x) : CodeS P nt (fun s => seqP (f s) fun e s => match e with
    | .normal => some (.normal, s)
    | .exit j => bif Nat.beq j i then some (.normal, s) else some (.exit j, s)
    | .goto i => some (.goto i, s)
    | .ret => some (.ret, s)) (.block i x) := fun rd ρ s s' e a w h hS Q hQ => by
  obtain ⟨e1, s1, h1, h2⟩ := seqP_some.1 h
  refine wpIn_block (hf rd ρ s s1 e1 a w h1 hS _ fun σ a1 w1 hS1 hst => ?_)
  cases e1 with
  | normal => injection h2 with h2; injection h2 with h2 h3; subst h2; subst h3; exact hQ σ a1 w1 hS1 hst
  | exit j =>
    dsimp only at h2
    show (if j = i then Q .normal a1 w1 else Q (.exit j) a1 w1)
    cases hb : Nat.beq j i with
    | true =>
      rw [hb] at h2
      injection h2 with h2; injection h2 with h2 h3; subst h2; subst h3
      rw [if_pos (beq_t.1 hb)]; exact hQ σ a1 w1 hS1 hst
    | false =>
      rw [hb] at h2
      injection h2 with h2; injection h2 with h2 h3; subst h2; subst h3
      rw [if_neg (beq_f.1 hb)]; exact hQ σ a1 w1 hS1 hst
  | goto j => injection h2 with h2; injection h2 with h2 h3; subst h2; subst h3; exact hQ σ a1 w1 hS1 hst
  | ret => injection h2 with h2; injection h2 with h2 h3; subst h2; subst h3; exact hQ σ a1 w1 hS1 hst
theorem loop_sound {f : St → R2} {c : Code} (hf : CodeS P nt f c) (n : Nat) : CodeS P nt (fun s => loopN f n s) (.loop c) := fun rd ρ0 s0 s' e a0 w0 h0 hS0 Q hQ => by
  intro b k cs hro hb hr
  have key : ∀ n ρ s a w, loopN f n s = some (e, s') → SR P ρ rd nt s a w → Stp ρ0 s0.w w0 ρ s.w w →
      ∃ e a' w', Q e a' w' ∧ ArrivesIn (Machine.fenced P (FW rd)) P (lone (b.atR a (.code c :: .inLoop c :: k)) cs w) b k cs e a' w' := by
    intro n
    induction n with
    | zero => intro ρ s a w h; cases h
    | succ n ih =>
      intro ρ s a w h hS hst
      obtain ⟨e1, s1, h1, h2⟩ := seqP_some.1 (show seqP (f s) (fun e s => match e with
        | .normal => loopN f n s
        | .exit i => some (.exit i, s)
        | .goto i => some (.goto i, s)
        | .ret => some (.ret, s)) = some (e, s') from h)
      obtain ⟨ex, a1, w1, ⟨σ, q1, q2, q3⟩, harr⟩ := hf rd ρ s s1 e1 a w h1 hS (fun ex a1 w1 => ∃ σ, ex = xo e1 ∧ SR P σ rd nt s1 a1 w1 ∧ Stp ρ s.w w σ s1.w w1) (fun σ a1 w1 k1 k2 => ⟨σ, rfl, k1, k2⟩) b (.inLoop c :: k) cs hro hb hr
      subst q1
      have hst1 := hst.trans q3
      cases e1 with
      | normal =>
        obtain ⟨e2, a2, w2, hq2, harr2⟩ := ih σ s1 a1 w1 h2 q2 hst1
        exact ⟨e2, a2, w2, hq2, .of_steps (StepsIn.trans harr (.one (fen _) stepR_inLoop)) harr2⟩
      | exit i => injection h2 with h2; injection h2 with h2 h3; subst h2; subst h3; exact ⟨_, a1, w1, hQ σ a1 w1 q2 hst1, .pass (x := .inLoop c) rfl (fun _ _ => .inl (by simp [xo])) harr⟩
      | goto i => injection h2 with h2; injection h2 with h2 h3; subst h2; subst h3; exact ⟨_, a1, w1, hQ σ a1 w1 q2 hst1, .pass (x := .inLoop c) rfl (fun _ _ => .inl (by simp [xo])) harr⟩
      | ret => injection h2 with h2; injection h2 with h2 h3; subst h2; subst h3; exact ⟨_, a1, w1, hQ σ a1 w1 q2 hst1, .pass (x := .inLoop c) rfl (fun _ _ => .inl (by simp [xo])) harr⟩
  obtain ⟨ex, a', w', hq, harr⟩ := key n ρ0 s0 a0 w0 h0 hS0 (Stp.refl _ _ _)
  exact ⟨ex, a', w', hq, .of_steps (.one (fen _) stepR_loop) harr⟩
theorem scope_sound {rec : Rec} (hr : RecS P rec) (hnt : nt ≤ 256) {f : St → R2} {c : Code} (hf : CodeS P nt f c) (n : Nat) : CodeS P nt (fun s => scopeN rec nt c n (f s)) (.scope c) := fun rd ρ0 s0 s' e a0 w0 h0 hS0 Q hQ => by
  intro b k cs hro hb hrm
  have key : ∀ n (m : Machine) e1 s1 σ a1 w1, scopeN rec nt c n (some (e1, s1)) = some (e, s') → SR P σ rd nt s1 a1 w1 → Stp ρ0 s0.w w0 σ s1.w w1 → ArrivesIn (Machine.fenced P (FW rd)) P m b (.inScope c :: k) cs (xo e1) a1 w1 →
      ∃ e a' w', Q e a' w' ∧ ArrivesIn (Machine.fenced P (FW rd)) P m b k cs e a' w' := by
    intro n
    induction n with
    | zero => intro m e1 s1 σ a1 w1 h; cases h
    | succ n ih =>
      intro m e1 s1 σ a1 w1 h hS hst harr
      cases e1 with
      | normal =>
        injection h with h; injection h with h1 h2; subst h1; subst h2
        exact ⟨.normal, a1, w1, hQ σ a1 w1 hS hst, StepsIn.trans harr (.one (fen _) stepR_inScope)⟩
      | exit i =>
        injection h with h; injection h with h1 h2; subst h1; subst h2
        have hx : exitTo i (.inScope c :: k) = exitTo i k := by simp [exitTo]
        exact ⟨.exit i, a1, w1, hQ σ a1 w1 hS hst, fun k' hk => harr.1 k' (by rw [hx]; exact hk), fun q hk => harr.2 q (by rw [hx]; exact hk)⟩
      | ret =>
        injection h with h; injection h with h1 h2; subst h1; subst h2
        exact ⟨.ret, a1, w1, hQ σ a1 w1 hS hst, harr⟩
      | goto i =>
        have h' : (match findLabel c i with
          | some c' => scopeN rec nt c n (rec.code nt c' s1)
          | none => some (.goto i, s1)) = some (e, s') := h
        cases hl : findLabel c i with
        | none =>
          rw [hl] at h'
          injection h' with h'; injection h' with h1 h2; subst h1; subst h2
          have hx : gotoIn i (.inScope c :: k) = gotoIn i k := by simp [gotoIn, hl]
          exact ⟨.goto i, a1, w1, hQ σ a1 w1 hS hst, fun k' hk => harr.1 k' (by rw [hx]; exact hk), fun q hk => harr.2 q (by rw [hx]; exact hk)⟩
        | some c' =>
          rw [hl] at h'
          dsimp only at h'
          have hx : gotoIn i (.inScope c :: k) = some (.code c' :: .inScope c :: k) := by simp [gotoIn, hl]
          have hs1 := harr.1 _ hx
          cases hrc : rec.code nt c' s1 with
          | none => rw [hrc] at h'; cases n <;> cases h'
          | some r =>
            obtain ⟨e2, s2⟩ := r
            rw [hrc] at h'
            obtain ⟨ex, a2, w2, ⟨τ, q1, q2, q3⟩, harr2⟩ := hr.code nt c' hnt rd σ s1 s2 e2 a1 w1 hrc hS (fun ex a2 w2 => ∃ τ, ex = xo e2 ∧ SR P τ rd nt s2 a2 w2 ∧ Stp σ s1.w w1 τ s2.w w2) (fun τ a2 w2 k1 k2 => ⟨τ, rfl, k1, k2⟩) b (.inScope c :: k) cs hro hb hrm
            subst q1
            exact ih m e2 s2 τ a2 w2 h' q2 (hst.trans q3) (.of_steps hs1 harr2)
  have h0 : scopeN rec nt c n (f s0) = some (e, s') := h0
  cases hfs : f s0 with
  | none => rw [hfs] at h0; cases n <;> cases h0
  | some r =>
    obtain ⟨e1, s1⟩ := r
    rw [hfs] at h0
    obtain ⟨ex, a1, w1, ⟨σ, q1, q2, q3⟩, harr⟩ := hf rd ρ0 s0 s1 e1 a0 w0 hfs hS0 (fun ex a1 w1 => ∃ σ, ex = xo e1 ∧ SR P σ rd nt s1 a1 w1 ∧ Stp ρ0 s0.w w0 σ s1.w w1) (fun σ a1 w1 k1 k2 => ⟨σ, rfl, k1, k2⟩) b (.inScope c :: k) cs hro hb hrm
    subst q1
    exact key n _ e1 s1 σ a1 w1 h0 q2 q3 (.of_steps (.one (fen _) stepR_scope) harr)
end
end Go.Proofs.YtoffclpjhikjkaaGreat.Ev
namespace Go.Proofs.YtoffclpjhikjkaaGreat.Ev
open Go
section
variable {P : Program} {nt : Nat} {ρ : Ren}
theorem setPs_tr {n : Nat} : ∀ (ps : List Tmp) (l : List AV) (xs : List Value) (tm : TM) (t : Array Value), VRs ρ l xs → TR ρ tm t → t.size = n → TR ρ (setPs ps l n tm) ((ps.zip xs).foldl (fun tmps (t, a) => tmps.setIfInBounds t a) t) ∧ ((ps.zip xs).foldl (fun tmps (t, a) => tmps.setIfInBounds t a) t).size = n
  | [], l, xs, tm, t, _, h, hn => by
    have e : setPs [] l n tm = tm := by cases l <;> rfl
    rw [e]; exact ⟨h, hn⟩
  | p :: ps, [], xs, tm, t, hv, h, hn => by
    cases hv
    exact ⟨h, hn⟩
  | p :: ps, x :: l, xs, tm, t, hv, h, hn => by
    cases hv with
    | cons _ y _ ys h1 h2 =>
      show TR ρ (setPs ps l n (bif Nat.blt p n then (setp D p).f tm x else tm)) ((ps.zip ys).foldl _ (t.setIfInBounds p y)) ∧ _
      have hn' : (t.setIfInBounds p y).size = n := by simpa using hn
      refine setPs_tr ps l ys _ _ h2 ?_ hn'
      cases hb : Nat.blt p n with
      | true =>
        rw [blt_d, decide_eq_true_eq] at hb
        exact h.put h1 (Nat.lt_of_lt_of_le hb (hn ▸ h.1))
      | false =>
        rw [blt_d, decide_eq_false_iff_not] at hb
        have : t.setIfInBounds p y = t := by
          apply Array.ext'
          simp [List.set_eq_of_length_le (show t.toList.length ≤ p by simp; omega)]
        rw [this]; exact h
theorem zip_foldl (ps : Array Tmp) (xs t : Array Value) : (ps.zip xs).foldl (fun tmps (t, a) => tmps.setIfInBounds t a) t = (ps.toList.zip xs.toList).foldl (fun tmps (t, a) => tmps.setIfInBounds t a) t := by
  rw [← Array.foldl_toList, Array.toList_zip]
/-- a round -/
theorem runR_sound {rec : Rec} (hr : RecS P rec) {l : Nat} {args : List AV} {aw aw' : AW} {v : AV} {w : World} {xs : Array Value} (h : runR rec l args aw = some (v, aw')) {t : Ent} (ht : ρ l = some t) (hv : VRs ρ args xs.toList) (hW : WR P ρ aw w) :
    ∃ r : Loop, w.heap[t.blk]? = some (.loop r) ∧ xs.size = r.params.size ∧ ∀ (rd : Option Nat) (R : Ending → World → Prop), (∀ σ y w', VR σ v y → WR P σ aw' w' → Stp ρ aw w σ aw' w' → R (.returned y) w') →
      RoundIn (FW rd) 0 P t.blk r.fn ((r.params.zip xs).foldl (fun tmps (t, a) => tmps.setIfInBounds t a) r.tmps) r.assign r.body w R := by
  unfold runR at h
  obtain ⟨B, hB, h⟩ := seqO_some.1 h
  cases B with
  | cells => cases h
  | oth o =>
    cases o <;> first | (cases h; done) | skip
    rename_i q p fn tm nt ps as body d
    dsimp only at h
    obtain ⟨hps, h⟩ := ifB_some.1 h
    rw [beq_t] at hps
    obtain ⟨e, r, k1, k2, k3, k4, k5, k6, k7, k8, k9, k10⟩ := loop_of hW hB ht
    obtain ⟨e1, s1, h1, h2⟩ := seqP_some.1 h
    cases e1 with
    | exit i => cases h2
    | goto i => cases h2
    | ret => cases h2
    | normal =>
      dsimp only at h2
      obtain ⟨w2, h3, h4⟩ := seqO_some.1 h2
      obtain ⟨e2, s2, h5, h6⟩ := seqP_some.1 h4
      have hxs : xs.size = args.length := by have := hv.length; simpa using this.symm
      refine ⟨r, k1, by rw [hxs, ← hps, k6], fun rd R hR => ?_⟩
      obtain ⟨t1, t2⟩ := setPs_tr (n := nt) ps.toList args xs.toList tm r.tmps hv k5 k10
      have hnt : nt ≤ 256 := by rw [← k10]; exact k5.1
      have hS0 : SR P ρ (some t.blk) nt ⟨setPs ps.toList args nt tm, [], aw, some l, false⟩ { tmps := (ps.toList.zip xs.toList).foldl (fun tmps (t, a) => tmps.setIfInBounds t a) r.tmps, defers := [] } w :=
        ⟨t2, t1, trivial, hW, .inr ⟨l, t, rfl, ht, rfl⟩⟩
      refine roundIn_of_wpIn trivial ?_
      rw [zip_foldl, k6, k7, k8]
      refine hr.code nt as hnt (some t.blk) ρ _ s1 .normal _ w h1 hS0 _ fun σ a1 w1 hS1 hst1 => ?_
      have htσ := hst1.le _ _ ht
      obtain ⟨r1, m1, m2, m3, m4⟩ := setLp_run hS1.wr h3 htσ
      have hrdy : r1.state = .ready := by
        cases hq : r1.state <;> rw [hq] at m2 <;> first | rfl | cases m2
      refine ⟨_, run_beginRound m1 hrdy, ?_⟩
      have hS2 : SR P σ (some t.blk) nt (withW s1 w2) a1 (w1.putObj t.blk (.loop { r1 with state := .busy })) := ⟨hS1.sz, hS1.tm, hS1.ds, m3, hS1.rnd⟩
      refine hr.code nt body hnt (some t.blk) σ _ s2 e2 _ _ h5 hS2 _ fun τ a3 w3 hS3 hst3 => ?_
      have htτ := hst3.le _ _ htσ
      have hall := (hst1.trans m4).trans hst3
      have fin : ∀ (st : LoopState) (pd : Option Code → Option Code) (b : Bool) (jump : Option Code), (∀ p, pd p = jump) → (st = if jump.isNone then .ready else .done) → jump.isNone = b → (seqO (setLp s2.w l st pd fun _ => true) fun w => some (AV.bool b, w)) = some (v, aw') →
          ∃ y w4, (Instr.endRound t.blk jump).run P w3 = .ok y w4 ∧ R (.returned y) w4 := fun st pd b jump hp hs hj hh => by
        obtain ⟨w5, n1, n2⟩ := seqO_some.1 hh
        injection n2 with n2; injection n2 with n2 n3
        subst n2; subst n3
        obtain ⟨r3, g1, _, g3, g4⟩ := setLp_run hS3.wr n1 htτ
        refine ⟨_, _, run_endRound jump g1, hR τ _ _ ?_ (by rw [hp, hs] at g3; exact g3) (by rw [hp, hs] at g4; exact hall.trans g4)⟩
        rw [hj]; exact .bool b
      cases e2 with
      | normal => exact fin .ready _ true none (fun _ => rfl) rfl rfl h6
      | ret => exact fin .done _ false (some .ret) (fun _ => rfl) rfl rfl h6
      | exit i => exact fin .done _ false (some (.exit i)) (fun _ => rfl) rfl rfl h6
      | goto i => exact fin .done _ false (some (.goto i)) (fun _ => rfl) rfl rfl h6
end
end Go.Proofs.YtoffclpjhikjkaaGreat.Ev
namespace Go.Proofs.YtoffclpjhikjkaaGreat.Ev
open Go
section
variable {P : Program} {nt : Nat} {ρ : Ren}
theorem callR_any {g : FuncId} {xs : Array Value} {aw aw' : AW} {v : AV} {w : World} (h : CallR P g xs ρ aw w v aw') (hb : hasB P g = true) : (∀ w1, (callFunc g xs).run P w1 = .ok (.enter g xs) w1) ∧ ∀ (rd : Option Nat) (R : Ending → World → Prop), (∀ σ y w', VR σ v y → WR P σ aw' w' → Stp ρ aw w σ aw' w' → R (.returned y) w') → CallsIn (FW rd) 0 P g xs w R := by
  rcases h with ⟨_, h1, h2⟩ | ⟨h1, _⟩
  · exact ⟨h1, fun rd R hR => h2 R hR⟩
  · rw [hb] at h1; cases h1
/-- the call of the iterator, and what follows it -/
theorem rf_call {rec : Rec} (hr : RecS P rec) {rd : Option Nat} {g : Operand} {ps : Array Tmp} {as body : Code} {s1 s' : St} {e : Ex} {a : Act} {w w1 : World} {l : Nat} {aw1 : AW} {tl : Ent} {mark : List Deferred}
    (h : (seqP (callI P rec ((fetch g).f s1.tm) l aw1) fun _ w => seqO (pdOf w l) fun pd => seqO (setLp w l .exhausted (fun p => p) isRD) fun w => pdE (withW s1 w) pd) = some (e, s'))
    (hg : tOk nt g = true) (hsz : a.tmps.size = nt) (htm : TR ρ s1.tm a.tmps) (hds : DRs ρ s1.ds (mark ++ a.defers)) (hW : WR P ρ aw1 w1) (hrnd : RndOk ρ s1.rnd rd) (hl : ρ l = some tl) {fn : FuncId}
    (hent : (Instr.enterLoop fn a.tmps ps as body rd).run P w = .ok (tl.blk, mark) w1) (Q : Exit → Act → World → Prop)
    (hQ : ∀ σ a' w', SR P σ rd nt s' a' w' → Stp ρ aw1 w1 σ s'.w w' → Q (xo e) a' w') :
    ∃ (l : Nat) (mark : List Deferred) (w₁ : World) (d : Deferred) (w₁' : World) (f : FuncId) (args : Array Value) (w₂ : World),
      (Instr.enterLoop fn a.tmps ps as body (FW rd).round).run P w = .ok (l, mark) w₁ ∧
      (resolve a.eval (rangeCall g l) 0).run P w₁ = .ok d w₁' ∧
      (∀ f', Target.leads P w₁' d.target d.args = some f' → (FW rd).fn f') ∧
      (invoke d.target d.args).run P w₁' = .ok (.enter f args) w₂ ∧
      ((FW rd).depth.isSome = true → 1 ≤ 0) ∧
      CallsIn (FW rd) (0 - 1) P f args w₂ (rangePost (FW rd) 0 P l Q { a with defers := mark ++ a.defers }) := by
  obtain ⟨v, aw2, h1, h2⟩ := seqP_some.1 h
  unfold callI at h1
  obtain ⟨h8, h1⟩ := ifB_some.1 h1
  rw [seqN_eq] at h1
  obtain ⟨hb, h1⟩ := ifB_some.1 h1
  have hv := act_evOk htm g (by rw [hsz]; exact hg)
  obtain ⟨gg, fa, fb, xs, ys, e1, e2, hx, hy⟩ := hv.asFn h8
  rw [e1] at h1 hb
  have hargs : VRs ρ (fa ++ [.yield l] ++ fb) (xs ++ #[Value.func (.yield tl.blk) #[] #[]] ++ ys).toList := by
    rw [Array.toList_append, Array.toList_append]
    exact (hx.append (.cons _ _ _ _ (.yield l tl hl) .nil)).append hy
  obtain ⟨k1, k2⟩ := callR_any (hr.call gg _ aw1 v aw2 ρ _ w1 h1 hargs hW) hb
  refine ⟨tl.blk, mark, w1, { target := .fn (.func gg) ys, args := xs ++ #[Value.func (.yield tl.blk) #[] #[]] }, w1, gg, xs ++ #[Value.func (.yield tl.blk) #[] #[]] ++ ys, w1, hent, ?_, fun _ _ => trivial, ?_, fun q => (by cases q), ?_⟩
  · unfold resolve rangeCall
    dsimp only
    rw [e2]
    show Result.ok (Deferred.mk _ (xs ++ Array.map a.eval #[Operand.const (Value.func (.yield tl.blk) #[] #[])])) w1 = _
    simp [Act.eval]
  · show (callFunc gg _).run P w1 = _
    exact k1 w1
  · refine k2 rd _ fun σ y w' m1 m2 m3 => ?_
    obtain ⟨pd, n1, n2⟩ := seqO_some.1 h2
    obtain ⟨aw3, n3, n4⟩ := seqO_some.1 n2
    obtain ⟨r, g1, g2, g3, g4⟩ := setLp_run m2 n3 (m3.le _ _ hl)
    have hnb : r.state ≠ .busy := fun q => by rw [q] at g2; cases g2
    have hpd : r.pending = pd := by
      unfold pdOf at n1
      obtain ⟨B, hB, n1⟩ := seqO_some.1 n1
      cases B with
      | cells => cases n1
      | oth o =>
        cases o <;> first | (cases n1; done) | skip
        injection n1 with n1
        obtain ⟨_, r', p1, _, _, p4, _⟩ := loop_of m2 hB (m3.le _ _ hl)
        rw [g1] at p1; injection p1 with p1; injection p1 with p1
        rw [p1, p4, n1]
    have hS : SR P σ rd nt (withW s1 aw3) { a with defers := mark ++ a.defers } (w'.putObj tl.blk (.loop { r with state := .exhausted })) :=
      ⟨hsz, htm.mono m3.le, hds.mono m3.le, g3, hrnd.mono m3.le⟩
    have hst := m3.trans g4
    refine ⟨pd, _, by rw [← hpd]; exact run_endLoop g1 hnb, ?_⟩
    have fin : ∀ {ex : Ex}, some (ex, withW s1 aw3) = some (e, s') → Q (xo ex) { a with defers := mark ++ a.defers } (w'.putObj tl.blk (.loop { r with state := .exhausted })) := fun {ex} q => by
      injection q with q; injection q with q1 q2
      subst q1; subst q2
      exact hQ σ _ _ hS hst
    cases pd with
    | none => exact fin n4
    | some c =>
      cases c <;> first | (cases n4; done) | skip
      · exact wpIn_exit (fin n4)
      · exact wpIn_goto (fin n4)
      · exact wpIn_ret (fin n4)
theorem rf_sound {rec : Rec} (hr : RecS P rec) {g : Operand} {ps : Array Tmp} {as body : Code} (hg : tOk nt g = true) : CodeS P nt (fun s => seqP (rfW s) fun d s => seqP (s.w.new (fun _ => .oth (.loop .ready none 0 s.tm nt ps as body d)) false) fun l w =>
      seqP (callI P rec ((fetch g).f s.tm) l w) fun _ w => seqO (pdOf w l) fun pd => seqO (setLp w l .exhausted (fun p => p) isRD) fun w => pdE (withW s w) pd) (.rangeFunc g ps as body) := fun rd ρ s s' e a w h hS Q hQ => by
  obtain ⟨d, s1, h1, h2⟩ := seqP_some.1 h
  obtain ⟨l, aw2, h3, h4⟩ := seqP_some.1 h2
  refine wpIn_rangeFunc fun fn _ => ?_
  unfold rfW at h1
  rcases hS.rnd with ⟨hr1, hr2⟩ | ⟨l0, t0, hr1, hr2, hr3⟩
  · rw [hr1] at h1
    obtain ⟨b, aw1, k1, k2⟩ := seqP_some.1 h1
    injection k2 with k2; injection k2 with k2 k3
    subst k2; subst k3; subst hr2
    obtain ⟨m1, m2⟩ := oth_add hS.wr k1 (ob := .deferred (some [])) (fun σ _ => ⟨[], rfl, trivial⟩)
    have hbn := Ren.add_same ρ b ⟨w.heap.size, 0, none⟩
    obtain ⟨n1, n2⟩ := oth_add m1 h3 (ob := .loop { state := .ready, pending := none, fn, tmps := a.tmps, params := ps, assign := as, body, defers := w.heap.size }) (fun σ hσ => ⟨_, _, hσ _ _ hbn, rfl, rfl, rfl, hS.tm.mono (m2.le.trans hσ), rfl, rfl, rfl, rfl, hS.sz⟩)
    have hle := m2.le.trans n2.le
    refine rf_call hr (aw1 := aw2) (tl := ⟨(w.heap.push (.deferred (some []))).size, 0, none⟩) (mark := [{ target := .collected w.heap.size, args := #[] }]) h4 hg hS.sz (hS.tm.mono hle) ⟨.inl ⟨rfl, _, n2.le _ _ hbn, rfl⟩, hS.ds.mono hle⟩ n1 (.inl ⟨rfl, rfl⟩) (Ren.add_same _ _ _) (fn := fn) ?_ Q fun σ a' w' q1 q2 => hQ σ a' w' q1 ((m2.trans n2).trans q2)
    show (Instr.enterLoop fn a.tmps ps as body none).run P w = _
    rw [run_enterLoop_outer]
    show Result.ok _ _ = Result.ok _ _
    simp only [Array.size_push]
    rfl
  · rw [hr1] at h1
    dsimp only at h1
    obtain ⟨B, hB, h1⟩ := seqO_some.1 h1
    cases B with
    | cells => cases h1
    | oth o =>
      cases o <;> first | (cases h1; done) | skip
      rename_i q p fn0 tm0 nt0 ps0 as0 b0 d0
      injection h1 with h1; injection h1 with h1 h1'
      subst h1; subst h1'
      obtain ⟨e0, r0, p1, p2, _, _, _, _, _, _, p9, _⟩ := loop_of hS.wr hB hr2
      obtain ⟨n1, n2⟩ := oth_add hS.wr h3 (ob := .loop { state := .ready, pending := none, fn, tmps := a.tmps, params := ps, assign := as, body, defers := r0.defers }) (fun σ hσ => ⟨_, _, hσ _ _ p2, rfl, rfl, rfl, hS.tm.mono hσ, rfl, rfl, rfl, p9, hS.sz⟩)
      refine rf_call hr (aw1 := aw2) (tl := ⟨w.heap.size, 0, none⟩) (mark := []) h4 hg hS.sz (hS.tm.mono n2.le) (hS.ds.mono n2.le) n1 (hS.rnd.mono n2.le) (Ren.add_same _ _ _) (fn := fn) ?_ Q fun σ a' w' q1 q2 => hQ σ a' w' q1 (n2.trans q2)
      rw [hr3, run_enterLoop_inner p1]
      rfl
end
end Go.Proofs.YtoffclpjhikjkaaGreat.Ev
namespace Go.Proofs.YtoffclpjhikjkaaGreat.Ev
open Go
section
variable {P : Program} {nt : Nat} {ρ : Ren}
theorem comp_sound (hm : P.follows .mixedOrders = true) {rec : Rec} (hr : RecS P rec) (hop : ∀ nt o, OpS P rec nt o) (hal : ∀ nt o, quiet o.op = true → lookK o.op = false → ∀ s s', (opC P nt o).f rec s = some s' → AlOf P (opd nt o) o s s') (hnt : nt ≤ 256) : ∀ c : Code, CodeS P nt ((comp P nt c).f rec) c
  | .skip => leaf_sound (e := .normal) fun _ _ _ _ h => wpIn_skip h
  | .label _ => leaf_sound (e := .normal) fun _ _ _ _ h => wpIn_label h
  | .ret => leaf_sound (e := .ret) fun _ _ _ _ h => wpIn_ret h
  | .exit i => leaf_sound (e := .exit i) fun _ _ _ _ h => wpIn_exit h
  | .goto i => leaf_sound (e := .goto i) fun _ _ _ _ h => wpIn_goto h
  | .seq x y => seq_sound (comp_sound hm hr hop hal hnt x) (comp_sound hm hr hop hal hnt y)
  | .cond c x y => fun rd ρ s s' e a w h hS Q hQ => by
    have h' : (bif !tOk nt c then (⟨fun _ _ => none⟩ : Fn1 (Rec → St → R2)) else ⟨fun rec s => (fun v : AV => ifB (v.is 3) (bif Nat.beq v.x 1 then (comp P nt x).f rec s else (comp P nt y).f rec s)) ((fetch c).f s.tm)⟩).f rec s = some (e, s') := h
    cases ht : tOk nt c with
    | false => rw [ht] at h'; cases h'
    | true =>
      rw [ht] at h'
      obtain ⟨h3, h4⟩ := ifB_some.1 h'
      have hv := act_evOk hS.tm c (by rw [hS.sz]; exact ht)
      obtain ⟨t, e1, e2⟩ := hv.asBool h3
      rw [e1] at h4
      refine wpIn_cond e2 ?_
      cases t with
      | true => exact comp_sound hm hr hop hal hnt x rd ρ s s' e a w h4 hS Q hQ
      | false => exact comp_sound hm hr hop hal hnt y rd ρ s s' e a w h4 hS Q hQ
  | .block i x => block_sound (comp_sound hm hr hop hal hnt x)
  | .loop x => loop_sound (comp_sound hm hr hop hal hnt x) 1000000
  | .scope x => scope_sound hr hnt (comp_sound hm hr hop hal hnt x) 1000000
  | .region id ops dr => fun rd ρ s s' e a w h hS Q hQ => by
    cases dr with
    | true =>
      obtain ⟨s1, h1, h2⟩ := seqO_some.1 (show seqO ((drawC P nt ops.toList).f rec s) (fun s => some (Ex.normal, s)) = some (e, s') from h)
      injection h2 with h2; injection h2 with h2 h3
      subst h2; subst h3
      exact draw_sound hm (fun o _ => hop nt o) (fun o _ => hal nt o) hnt h1 hS hQ
    | false =>
      obtain ⟨s1, h1, h2⟩ := seqO_some.1 (show seqO ((compOps P nt ops.toList ops.toList).f rec s) (fun s => some (Ex.normal, s)) = some (e, s') from h)
      injection h2 with h2; injection h2 with h2 h3
      subst h2; subst h3
      exact region_sound (fun o _ => hop nt o) h1 hS hQ
  | .rangeFunc g ps x y => fun rd ρ s s' e a w h hS Q hQ => by
    cases ht : tOk nt g with
    | false =>
      have h' : (bif !tOk nt g then (⟨fun _ _ => none⟩ : Fn1 (Rec → St → R2)) else ⟨fun rec s => seqP (rfW s) fun d s => seqP (s.w.new (fun _ => .oth (.loop .ready none 0 s.tm nt ps x y d)) false) fun l w =>
        seqP (callI P rec ((fetch g).f s.tm) l w) fun _ w => seqO (pdOf w l) fun pd => seqO (setLp w l .exhausted (fun p => p) isRD) fun w => pdE (withW s w) pd⟩).f rec s = some (e, s') := h
      rw [ht] at h'; cases h'
    | true =>
      have h' : (bif !tOk nt g then (⟨fun _ _ => none⟩ : Fn1 (Rec → St → R2)) else ⟨fun rec s => seqP (rfW s) fun d s => seqP (s.w.new (fun _ => .oth (.loop .ready none 0 s.tm nt ps x y d)) false) fun l w =>
        seqP (callI P rec ((fetch g).f s.tm) l w) fun _ w => seqO (pdOf w l) fun pd => seqO (setLp w l .exhausted (fun p => p) isRD) fun w => pdE (withW s w) pd⟩).f rec s = some (e, s') := h
      rw [ht] at h'
      exact rf_sound hr ht rd ρ s s' e a w h' hS Q hQ
  | .refuse _ => fun _ _ _ _ _ _ _ h => by cases h
/-! ### A function -/
theorem setAll_get : ∀ (l : List AV) (i : Nat) (t : TM) (k : Nat), k < 256 → i + l.length ≤ 256 → tget (setAll i l t) k = if i ≤ k ∧ k < i + l.length then l.getD (k - i) .undef else tget t k
  | [], i, t, k, hk, _ => by rw [if_neg (by simp)]; rfl
  | x :: l, i, t, k, hk, hl => by
    simp only [List.length_cons] at hl ⊢
    show tget (setAll (i + 1) l ((setp D i).f t x)) k = _
    rw [setAll_get l (i + 1) _ k hk (by omega), tget_set hk (by omega)]
    by_cases h1 : k = i
    · subst h1
      rw [if_neg (by omega), if_pos rfl, if_pos (by omega), Nat.sub_self]; rfl
    · by_cases h2 : i + 1 ≤ k ∧ k < i + 1 + l.length
      · rw [if_pos h2, if_pos (by omega)]
        obtain ⟨m, rfl⟩ : ∃ m, k = i + 1 + m := ⟨k - (i + 1), by omega⟩
        rw [show i + 1 + m - (i + 1) = m from by omega, show i + 1 + m - i = m + 1 from by omega]; rfl
      · rw [if_neg h2, if_neg h1, if_neg (by omega)]
theorem enter_tr {l : List AV} {xs : Array Value} {n : Nat} (hv : VRs ρ l xs.toList) (hn : n ≤ 256) (hl : l.length ≤ n) : TR ρ (setAll 0 l (Tr.all .undef D)) (xs ++ Array.replicate (n - xs.size) undef) ∧ (xs ++ Array.replicate (n - xs.size) undef).size = n := by
  have hxs : xs.size = l.length := by have := hv.length; simpa using this.symm
  have hsz : (xs ++ Array.replicate (n - xs.size) undef).size = n := by simp; omega
  refine ⟨⟨by rw [hsz]; exact hn, fun i x hx => ?_⟩, hsz⟩
  have hi : i < n := by
    have := (Array.getElem?_eq_some_iff.1 hx).1
    rw [hsz] at this; exact this
  rw [setAll_get l 0 _ i (by omega) (by omega)]
  by_cases h1 : i < l.length
  · rw [if_pos (by omega), Nat.sub_zero]
    rw [Array.getElem?_append_left (by omega)] at hx
    have : l[i]? = some (l.getD i .undef) := by
      rw [List.getElem?_eq_getElem h1, List.getD_eq_getElem?_getD, List.getElem?_eq_getElem h1]; rfl
    obtain ⟨y, k1, k2⟩ := hv.get this
    rw [Array.getElem?_toList, hx] at k1; injection k1 with k1
    rw [k1]; exact k2
  · rw [if_neg (by omega), tget_all]
    rw [Array.getElem?_append_right (by omega), Array.getElem?_replicate] at hx
    split at hx
    · injection hx with hx; rw [← hx]; exact .undef
    · cases hx
end
end Go.Proofs.YtoffclpjhikjkaaGreat.Ev
namespace Go.Proofs.YtoffclpjhikjkaaGreat.Ev
open Go
section
variable {P : Program} {ρ : Ren}
def resM (tmps : Array Value) : ResultVar → Sem Value
  | .tmp t => pure (tmps.getD t undef)
  | .cell a t => do loadVar t (← asAddr (tmps.getD a undef))
theorem mapM_run {α β : Type} (f : α → Sem β) : ∀ (l : List α) (w : World) (ys : List β), (∀ (i : Nat) (a : α) (b : β), l[i]? = some a → ys[i]? = some b → (f a).run P w = .ok b w) → l.length = ys.length → (l.mapM f).run P w = .ok ys w
  | [], w, [], _, _ => rfl
  | [], w, _ :: _, _, h => by simp at h
  | _ :: _, w, [], _, h => by simp at h
  | x :: l, w, y :: ys, h, hl => by
    rw [List.mapM_cons, run_bind, h 0 x y rfl rfl]; dsimp only
    rw [run_bind, mapM_run f l w ys (fun i a b h1 h2 => h (i + 1) a b (by simpa using h1) (by simpa using h2)) (by simpa using hl)]
    rfl
theorem res_run {nt : Nat} {tm : TM} {tmps : Array Value} {aw : AW} {w : World} (htm : TR ρ tm tmps) (hsz : tmps.size = nt) (hW : WR P ρ aw w) : ∀ (rs : List ResultVar) (l : List AV), rs.all (rOk nt) = true → (resC P rs).f tm aw = some l → ∃ ys : List Value, VRs ρ l ys ∧ rs.length = ys.length ∧ ∀ (i : Nat) (a : ResultVar) (b : Value), rs[i]? = some a → ys[i]? = some b → (resM tmps a).run P w = .ok b w
  | [], l, _, h => by injection h with h; subst h; exact ⟨[], .nil, rfl, fun i a b q => by simp at q⟩
  | r :: rs, l, hr, h => by
    rw [List.all_cons, Bool.and_eq_true] at hr
    have hval : ∀ t, t < nt → VR ρ (tget tm t) (tmps.getD t undef) := fun t ht => by
      have ht' : t < tmps.size := by rw [hsz]; exact ht
      have h1 : tmps[t]? = some tmps[t] := Array.getElem?_eq_getElem ht'
      have := htm.2 t _ h1
      rw [Array.getD_eq_getD_getElem?, h1]; exact this
    have done : ∀ (x : AV) (y : Value) (l' : List AV), l = x :: l' → (resC P rs).f tm aw = some l' → VR ρ x y → (resM tmps r).run P w = .ok y w → ∃ ys : List Value, VRs ρ l ys ∧ (r :: rs).length = ys.length ∧ ∀ (i : Nat) (a : ResultVar) (b : Value), (r :: rs)[i]? = some a → ys[i]? = some b → (resM tmps a).run P w = .ok b w := fun x y l' e1 e2 e3 e4 => by
      obtain ⟨ys, k1, k2, k3⟩ := res_run htm hsz hW rs l' hr.2 e2
      refine ⟨y :: ys, by rw [e1]; exact .cons _ _ _ _ e3 k1, by simp [k2], fun i a b q1 q2 => ?_⟩
      cases i with
      | zero => simp at q1 q2; subst q1; subst q2; exact e4
      | succ i => simp at q1 q2; exact k3 i a b q1 q2
    cases r with
    | tmp t =>
      obtain ⟨l', h1, h2⟩ := seqO_some.1 (show seqO ((resC P rs).f tm aw) _ = some l from h)
      injection h2 with h2
      have ht : t < nt := by
        have : Nat.blt t nt = true := hr.1
        rw [blt_d, decide_eq_true_eq] at this; exact this
      exact done _ _ l' h2.symm h1 (hval t ht) rfl
    | cell a t =>
      obtain ⟨h4, h1⟩ := ifB_some.1 (show ifB ((tget tm a).is 4) (seqO ((loadC P t).f aw (tget tm a).x (tget tm a).y) fun x => seqO ((resC P rs).f tm aw) fun r => some (x :: r)) = some l from h)
      obtain ⟨x, h2, h3⟩ := seqO_some.1 h1
      obtain ⟨l', h5, h6⟩ := seqO_some.1 h3
      injection h6 with h6
      have ha : a < nt := by
        have : Nat.blt a nt = true := hr.1
        rw [blt_d, decide_eq_true_eq] at this; exact this
      obtain ⟨b, o, e, e1, e2, e3⟩ := (hval a ha).asPtr h4
      rw [e1] at h2
      obtain ⟨y, k1, k2⟩ := loadC_run hW h2 e2
      refine done x y l' h6.symm h5 k2 ?_
      show (asAddr (tmps.getD a undef) >>= fun ad => loadVar t ad).run P w = _
      rw [e3, run_bind]
      exact k1
theorem results_run {fn : Func} {tm : TM} {tmps : Array Value} {aw : AW} {w : World} {l : List AV} (htm : TR ρ tm tmps) (hsz : tmps.size = fn.ntmps) (hW : WR P ρ aw w) (hr : fn.results.toList.all (rOk fn.ntmps) = true) (h : (resC P fn.results.toList).f tm aw = some l) : ∃ y, (results fn tmps).run P w = .ok y w ∧ VR ρ (tupV l) y := by
  obtain ⟨ys, k1, k2, k3⟩ := res_run htm hsz hW _ l hr h
  have hm := mapM_run (P := P) (resM tmps) fn.results.toList w ys k3 k2
  have hv : (fn.results.mapM (resM tmps)).run P w = .ok ys.toArray w := by
    rw [Array.mapM_eq_mapM_toList]
    show Sem.run P (List.toArray <$> fn.results.toList.mapM (resM tmps)) w = _
    rw [map_eq_pure_bind, run_bind, hm]; rfl
  have he : (results fn tmps).run P w = .ok (if h : ys.toArray.size = 1 then ys.toArray[0] else .tuple ys.toArray) w := by
    show Sem.run P (fn.results.mapM (resM tmps) >>= fun vs => pure (if h : vs.size = 1 then vs[0] else .tuple vs)) w = _
    rw [run_bind, hv]; rfl
  refine ⟨_, he, ?_⟩
  cases l with
  | nil =>
    cases k1
    exact .undef
  | cons x l =>
    cases l with
    | nil =>
      cases k1 with
      | cons _ y _ ys' h1 h2 => cases h2; exact h1
    | cons x2 l =>
      cases k1 with
      | cons _ y _ ys' h1 h2 =>
        cases h2 with
        | cons _ y2 _ ys2 h3 h4 =>
          rw [dif_neg (by simp)]
          exact .tup _ _ (.cons _ _ _ _ h1 (.cons _ _ _ _ h3 h4))
theorem unw_sound {fn : Func} {tmps : Array Value} {R : Ending → World → Prop} : ∀ (ds : List ADef) (defers : List Deferred) (aw aw2 : AW) (w : World), DRs ρ ds defers → unwN ds aw = some aw2 → WR P ρ aw w → (∀ w2, WR P ρ aw2 w2 → Stp ρ aw w ρ aw2 w2 → LeavesInM (FW none) 0 P fn tmps R [] .returning w2) → LeavesInM (FW none) 0 P fn tmps R defers .returning w
  | [], [], aw, aw2, w, _, h, hW, hR => by injection h with h; subst h; exact hR w hW (Stp.refl _ _ _)
  | [], _ :: _, _, _, _, q, _, _, _ => q.elim
  | _ :: _, [], _, _, _, q, _, _, _ => q.elim
  | a :: ds, d :: defers, aw, aw2, w, q, h, hW, hR => by
    unfold unwN at h
    obtain ⟨h0, h⟩ := ifB_some.1 h
    rw [beq_t] at h0
    obtain ⟨B, hB, h⟩ := seqO_some.1 h
    rcases q.1 with ⟨_, e, he, hd⟩ | ⟨h1, _⟩
    · cases B with
      | cells => cases h
      | oth o =>
        cases o <;> first | (cases h; done) | skip
        rename_i l
        cases l with
        | none => cases h
        | some l =>
          cases l with
          | cons => cases h
          | nil =>
            obtain ⟨ob, k1, ⟨m, rfl, k2⟩, _⟩ := hW.blk _ _ _ hB he
            cases m with
            | cons => exact k2.elim
            | nil =>
              obtain ⟨g1, g2⟩ := oth_put (q' := .dfd none) (ob := .deferred none) hW hB he (wr_set k1) rfl
              refine ⟨by simp, .inl ⟨e.blk, _, hd, run_takeDeferred k1, ?_⟩⟩
              exact unw_sound ds defers _ aw2 _ q.2 h g1 fun w2 m1 m2 => hR w2 m1 (g2.trans m2)
    · omega
end
/-- what is summed up is what it says -/
def ExtOk (P : Program) (X : FuncId → Option Ext) : Prop := ∀ (g : FuncId) (x : Ext) (l : List AV) (aw : AW) (v : AV) (aw' : AW) (ρ : Ren) (xs : Array Value) (w : World), X g = some x → (extC x).f l aw = some (v, aw') → VRs ρ l xs.toList → WR P ρ aw w → CallR P g xs ρ aw w v aw'
section
variable {P : Program}
theorem compF_sound (hm : P.follows .mixedOrders = true) {X : FuncId → Option Ext} (hX : ExtOk P X) {rec : Rec} (hr : RecS P rec) (hop : ∀ nt o, OpS P rec nt o) (hal : ∀ nt o, quiet o.op = true → lookK o.op = false → ∀ s s', (opC P nt o).f rec s = some s' → AlOf P (opd nt o) o s s')
    (g : FuncId) (l : List AV) (aw : AW) (v : AV) (aw' : AW) (ρ : Ren) (xs : Array Value) (w : World) (h : (compF P X g).f rec l false aw = some (v, aw')) (hv : VRs ρ l xs.toList) (hW : WR P ρ aw w) : CallR P g xs ρ aw w v aw' := by
  unfold compF at h
  cases hx : X g with
  | some x =>
    rw [hx] at h
    dsimp only at h
    exact hX g x l aw v aw' ρ xs w hx (ifB_some.1 h).2 hv hW
  | none =>
    rw [hx] at h
    dsimp only at h
    cases hf : P.funcs[g]? with
    | none => rw [hf] at h; cases h
    | some fn =>
      rw [hf] at h
      dsimp only at h
      cases hb : fn.body with
      | none => rw [hb] at h; cases h
      | some c =>
        rw [hb] at h
        dsimp only at h
        cases hck : (Nat.ble fn.ntmps 256 && fn.results.toList.all (rOk fn.ntmps) && !(fn.name == "runtime.NumGoroutine")) with
        | false => rw [hck] at h; cases h
        | true =>
          rw [hck] at h
          rw [Bool.and_eq_true, Bool.and_eq_true, ble_d, decide_eq_true_eq, Bool.not_eq_true'] at hck
          obtain ⟨⟨hnt, hres⟩, hname⟩ := hck
          simp only [cond_true] at h
          obtain ⟨hl, h⟩ := ifB_some.1 h
          rw [ble_d, decide_eq_true_eq] at hl
          obtain ⟨e, s1, h1, h2⟩ := seqP_some.1 h
          obtain ⟨he, h2⟩ := ifB_some.1 h2
          obtain ⟨aw2, h3, h4⟩ := seqO_some.1 h2
          obtain ⟨rl, h5, h6⟩ := seqO_some.1 h4
          injection h6 with h6; injection h6 with h6 h7
          subst h6; subst h7
          refine .inl ⟨by unfold hasB; rw [hf]; dsimp only; rw [hb]; rfl, fun w1 => ?_, fun R hR => ?_⟩
          · unfold callFunc
            show Sem.run P (program >>= _) w1 = _
            rw [run_bind]
            show Sem.run P (match P.funcs[g]? with | none => _ | some fn => _) w1 = _
            rw [hf]; dsimp only
            rw [if_neg (by rw [hname]; decide), if_neg (by rw [hb]; simp)]
            rfl
          · obtain ⟨t1, t2⟩ := enter_tr hv hnt hl
            refine callsIn_of_wp_marks hf hb trivial ?_ rfl
            have hS0 : SR P ρ none fn.ntmps ⟨setAll 0 l (Tr.all .undef D), [], aw, none, false⟩ { tmps := xs ++ Array.replicate (fn.ntmps - xs.size) undef, defers := [] } w := ⟨t2, t1, trivial, hW, .inl ⟨rfl, rfl⟩⟩
            refine comp_sound hm hr hop hal hnt c none ρ _ s1 e _ w h1 hS0 _ fun σ a' w' hS hst => ?_
            have main : LeavesInM (FW none) 0 P fn a'.tmps R a'.defers .returning w' := unw_sound s1.ds a'.defers s1.w aw2 w' hS.ds h3 hS.wr fun w2 hW2 hst2 => by
              obtain ⟨y, k1, k2⟩ := results_run hS.tm hS.sz hW2 hres h5
              exact ⟨y, k1, hR σ y w2 k2 hW2 (hst.trans hst2)⟩
            cases e with
            | normal => exact main
            | ret => exact main
            | exit i => cases he
            | goto i => cases he
/-- whatever the evaluator runs, the machine does -/
theorem rec_sound (hm : P.follows .mixedOrders = true) {X : FuncId → Option Ext} (hX : ExtOk P X) (hop : ∀ rec, RecS P rec → ∀ nt o, OpS P rec nt o) (hal : ∀ rec nt o, quiet o.op = true → lookK o.op = false → ∀ s s', (opC P nt o).f rec s = some s' → AlOf P (opd nt o) o s s') : ∀ n, RecS P (recN P X n)
  | 0 => ⟨fun _ _ _ _ _ _ _ _ _ _ h => (by cases h), fun _ _ _ _ _ _ _ _ h => by cases h⟩
  | n + 1 => by
    have ih := rec_sound hm hX hop hal n
    exact ⟨fun nt c hnt => comp_sound hm ih (hop _ ih) (hal _) hnt c, fun g l aw v aw' ρ xs w h hv hW => compF_sound hm hX ih (hop _ ih) (hal _) g l aw v aw' ρ xs w h hv hW⟩
end
end Go.Proofs.YtoffclpjhikjkaaGreat.Ev
namespace Go.Proofs.YtoffclpjhikjkaaGreat.Ev
open Go
section
variable {P : Program} {ρ : Ren} {w : World}
/-- the keys of the language that are told at once -/
theorem checkKey_simple {t : TypeId} (h : boolT P t = true) (b : Bool) (n : Nat) (v : Value) : (Instr.checkKey b (n + 1) t v).run P w = .ok () w := by
  unfold boolT at h
  cases hu : P.underlying t with
  | none => rw [hu] at h; cases h
  | some d =>
    rw [hu] at h
    unfold Instr.checkKey
    rw [run_bind, run_underlying hu]; dsimp only
    cases d <;> first | (cases h; done) | skip
    all_goals (cases v <;> rfl)
theorem forIn_ok {β : Type} (f : β → PUnit → Sem (ForInStep PUnit)) : ∀ (l : List β), (∀ x ∈ l, (f x PUnit.unit).run P w = .ok (.yield PUnit.unit) w) → (forIn l PUnit.unit f >>= fun _ => (pure () : Sem Unit)).run P w = .ok () w
  | [], _ => rfl
  | x :: l, h => by
    rw [List.forIn_cons, bind_assoc, run_bind, h x (List.mem_cons_self ..)]; dsimp only
    exact forIn_ok f l fun y hy => h y (List.mem_cons_of_mem _ hy)
theorem checkKey_run {kt : TypeId} {k : AV} {x : Value} (h : keyOk P kt k = true) (hk : VR ρ k x) (b : Bool) (n : Nat) : (Instr.checkKey b (n + 2) kt x).run P w = .ok () w := by
  unfold keyOk at h
  cases hu : P.underlying kt with
  | none => rw [hu] at h; cases h
  | some d =>
    rw [hu] at h
    cases d <;> first | (cases h; done) | skip
    case bool => exact checkKey_simple (by unfold boolT; rw [hu]) b _ x
    case int => exact checkKey_simple (by unfold boolT; rw [hu]) b _ x
    case string => exact checkKey_simple (by unfold boolT; rw [hu]) b _ x
    case struct fs =>
      dsimp only at h
      rw [Bool.and_eq_true, List.all_eq_true] at h
      obtain ⟨l, xs, rfl, rfl, hv, ho⟩ := hk.asAgg h.1
      unfold Instr.checkKey
      rw [run_bind, run_underlying hu]; dsimp only
      rw [← Array.forIn_toList]
      refine forIn_ok _ _ fun f hf => ?_
      have hff := h.2 f hf
      rw [Bool.and_eq_true] at hff
      obtain ⟨y0, hy0⟩ := Option.isSome_iff_exists.1 hff.2
      obtain ⟨y, r1, _⟩ := part_run (w := w) hy0 hv ho
      by_cases hn : f.name = "_"
      · rw [if_neg (by simp [hn])]; rfl
      · rw [if_pos hn, run_bind, r1]; dsimp only
        rw [run_bind, checkKey_simple hff.1]; rfl
    case array len el =>
      dsimp only at h
      rw [Bool.and_eq_true, Bool.and_eq_true] at h
      obtain ⟨l, xs, rfl, rfl, hv, ho⟩ := hk.asAgg h.1
      cases hz : sizeOf P el with
      | none => rw [hz] at h; exact absurd h.2.2 (by simp)
      | some z =>
        rw [hz] at h
        have hall := List.all_eq_true.1 h.2.2
        unfold Instr.checkKey
        rw [run_bind, run_underlying hu]; dsimp only
        rw [Std.Legacy.Range.forIn_eq_forIn_range']
        refine forIn_ok _ _ fun i hi => ?_
        have hi' : i < len := by
          simp [Std.Legacy.Range.size] at hi
          omega
        obtain ⟨y0, hy0⟩ := Option.isSome_iff_exists.1 (hall i (mem_upTo hi'))
        obtain ⟨y, r1, _⟩ := part_run (w := w) hy0 hv ho
        rw [run_bind, run_sizeOf hz]; dsimp only
        rw [run_bind, r1]; dsimp only
        rw [run_bind, checkKey_simple h.2.1]; rfl
end
end Go.Proofs.YtoffclpjhikjkaaGreat.Ev
namespace Go.Proofs.YtoffclpjhikjkaaGreat.Ev
open Go
section
variable {P : Program} {ρ : Ren} {w : World}
theorem sameNow_eq {t : TypeId} {d : TypeDesc} {x y : Value} {b r : Bool} (hd : P.underlying t = some d) (h : Instr.sameNow d x y = some b) (hr : (Op.equal t x y).run P w = .ok r w) : b = r := by
  unfold Op.equal Op.maxDepth at hr
  unfold Instr.sameNow at h
  split at h
  · rename_i k a k' c
    split at h
    · rename_i hk
      subst hk
      injection h with h
      rw [run_equalIn_int w _ t _ _ _ _ hd] at hr
      injection hr with hr; rw [← h, ← hr]
    · cases h
  · injection h with h
    rw [run_equalIn_string w _ t _ _ hd] at hr
    injection hr with hr; rw [← h, ← hr, beq_toListBytes]
  · injection h with h
    rw [run_equalIn_bool' w _ t _ _ hd] at hr
    injection hr with hr; rw [← h, ← hr]
  · cases h
theorem find_ask {kt : TypeId} {k : AV} {x : Value} (hk : VR ρ k x) : ∀ (es : List (AV × AV × Nat)) (en : List MapEntry) (i : Nat) (r : Option (Nat × AV × Nat)), findE P kt k es i = some r → MRs ρ es en →
    ∃ r', (Instr.findAsking kt x en i).run P w = .ok r' w ∧ (∀ d, P.underlying kt = some d → ∀ q, Instr.findNow d x en i = some q → q = r') ∧
      ((r = none ∧ r' = none) ∨ ∃ m e p, r = some (i + m, p) ∧ en[m]? = some e ∧ r' = some (i + m, e.val) ∧ (∃ k', es[m]? = some (k', p)) ∧ VR ρ p.1 e.val ∧ e.born = p.2)
  | [], [], i, r, h, _ => by
    injection h with h
    exact ⟨none, rfl, fun d _ q hq => by injection hq with hq; exact hq.symm, .inl ⟨h.symm, rfl⟩⟩
  | [], _ :: _, _, _, _, q => q.elim
  | _ :: _, [], _, _, _, q => q.elim
  | p :: es, e :: en, i, r, h, hm => by
    obtain ⟨b, h1, h2⟩ := seqO_some.1 h
    have heq : (Op.equal kt x e.key).run P w = .ok b w := by
      unfold Op.equal Op.maxDepth
      exact eqv_run (w := w) 4 kt k p.1 b x e.key h1 hk hm.1 _ (by decide)
    have hrun : ∀ r', (if b = true then pure (some (i, e.val)) else Instr.findAsking kt x en (i + 1) : Sem (Option (Nat × Value))).run P w = .ok r' w → (Instr.findAsking kt x (e :: en) i).run P w = .ok r' w := fun r' q => by
      unfold Instr.findAsking
      rw [run_bind, heq]; exact q
    cases b with
    | true =>
      injection h2 with h2
      refine ⟨some (i, e.val), hrun _ rfl, fun d hd q hq => ?_, .inr ⟨0, e, p.2, h2.symm, rfl, rfl, ⟨p.1, rfl⟩, hm.2.1, hm.2.2.1⟩⟩
      unfold Instr.findNow at hq
      cases hs : Instr.sameNow d x e.key with
      | none => rw [hs] at hq; cases hq
      | some c =>
        rw [hs] at hq
        have := sameNow_eq hd hs heq
        subst this
        injection hq with hq; exact hq.symm
    | false =>
      obtain ⟨r', k1, k2, k3⟩ := find_ask hk es en (i + 1) r h2 hm.2.2.2
      refine ⟨r', hrun _ k1, fun d hd q hq => ?_, ?_⟩
      · unfold Instr.findNow at hq
        cases hs : Instr.sameNow d x e.key with
        | none => rw [hs] at hq; cases hq
        | some c =>
          rw [hs] at hq
          have := sameNow_eq hd hs heq
          subst this
          exact k2 d hd q hq
      · rcases k3 with k3 | ⟨m, e', p', m1, m2, m3, m4, m5, m6⟩
        · exact .inl k3
        · exact .inr ⟨m + 1, e', p', by rw [m1]; congr 2; omega, by simpa using m2, by rw [m3]; congr 2; omega, by simpa using m4, m5, m6⟩
theorem find_run {kt : TypeId} {k : AV} {x : Value} (hk : VR ρ k x) {d : TypeDesc} (hd : P.underlying kt = some d) {es : List (AV × AV × Nat)} {en : List MapEntry} {r : Option (Nat × AV × Nat)} (h : findE P kt k es 0 = some r) (hm : MRs ρ es en) :
    ∃ r', (Instr.findKey kt x en).run P w = .ok r' w ∧ ((r = none ∧ r' = none) ∨ ∃ m e p, r = some (m, p) ∧ en[m]? = some e ∧ r' = some (m, e.val) ∧ (∃ k', es[m]? = some (k', p)) ∧ VR ρ p.1 e.val ∧ e.born = p.2) := by
  obtain ⟨r', h1, h2, h3⟩ := find_ask (P := P) (w := w) hk es en 0 r h hm
  refine ⟨r', ?_, ?_⟩
  · unfold Instr.findKey
    rw [run_bind, run_underlying hd]; dsimp only
    cases hq : Instr.findNow d x en 0 with
    | none => exact h1
    | some q => rw [h2 d hd q hq]; rfl
  · rcases h3 with h3 | ⟨m, e, p, m1, m2, m3, m4⟩
    · exact .inl h3
    · rw [Nat.zero_add] at m1 m3; exact .inr ⟨m, e, p, m1, m2, m3, m4⟩
theorem checkKey_all {kt : TypeId} {k : AV} {x : Value} (h : keyOk P kt k = true) (hk : VR ρ k x) (b : Bool) (N : Nat) (hN : N = 10000) : (Instr.checkKey b N kt x).run P w = .ok () w := by
  obtain ⟨M, rfl⟩ : ∃ M, N = M + 2 := ⟨9998, hN⟩
  exact checkKey_run h hk b M
theorem keyOk_d {kt : TypeId} {k : AV} (h : keyOk P kt k = true) : ∃ d, P.underlying kt = some d := by
  unfold keyOk at h
  cases hu : P.underlying kt with
  | none => rw [hu] at h; cases h
  | some d => exact ⟨d, rfl⟩
end
section
variable {P : Program} {ρ : Ren} {s s' : St} {w : World} {ev : Operand → Value} {o : Oper}
def lkT (el : TypeId) (ok : Bool) (q : Option (Nat × Value)) : Sem Value := match q with
  | some (_, v) => do
    let x ← (pure (v, true) : Sem (Value × Bool))
    pure (if ok then .tuple #[x.1, .bool x.2] else x.1)
  | none => do
    let z ← zeroValue el
    let x ← (pure (z, false) : Sem (Value × Bool))
    pure (if ok then .tuple #[x.1, .bool x.2] else x.1)
theorem look_sound (hW : WR P ρ s.w w) {t : TypeId} {x k : Operand} {a b : AV} {ok : Bool} (ho : o.op = .lookup t x k ok) (ha : VR ρ a (ev x)) (hb : VR ρ b (ev k)) (h : (finO o.dst).f s ((lookC P t ok).f s.w a b) = some s') : Fin P ρ s w ev o s' := by
  refine finO_sound hW h fun u hu => ?_
  have he : execOp ev o = (do pure (Next.value (← Instr.lookup t (ev x) (ev k) ok))) := by unfold execOp; rw [ho]
  unfold lookC at hu
  cases hd : P.underlying t with
  | none => rw [hd] at hu; cases hu
  | some d =>
    rw [hd] at hu
    cases d <;> first | (cases hu; done) | skip
    rename_i kt el
    dsimp only at hu
    cases hz : zero P el with
    | none => rw [hz] at hu; cases hu
    | some z =>
      rw [hz] at hu
      obtain ⟨hk, hu⟩ := ifB_some.1 hu
      obtain ⟨es, ck, hm, hu⟩ := seqP_some.1 hu
      obtain ⟨r, hf, hu⟩ := seqO_some.1 hu
      injection hu with hu
      obtain ⟨dk, hdk⟩ := keyOk_d hk
      obtain ⟨N, hN⟩ : ∃ N, N = 10000 := ⟨_, rfl⟩
      have main : ∀ en : Array MapEntry, MRs ρ es en.toList → (∀ v, (Instr.checkKey en.isEmpty N kt (ev k) >>= fun _ => Instr.findKey kt (ev k) en.toList >>= fun q => lkT el ok q : Sem Value).run P w = .ok v w → (Instr.lookup t (ev x) (ev k) ok).run P w = .ok v w) → ∃ y, VR ρ u y ∧ (execOp ev o).run P w = .ok (.value y) w := fun en hen hrun => by
        obtain ⟨r', f1, f2⟩ := find_run (w := w) hb hdk hf hen
        have fin : ∀ (v : AV) (y : Value) (b : Bool), (lkT el ok r').run P w = .ok (if ok then .tuple #[y, .bool b] else y) w → VR ρ v y → u = (bif ok then .tup [v, .bool b] else v) → ∃ y, VR ρ u y ∧ (execOp ev o).run P w = .ok (.value y) w := fun v y b q1 q2 q3 => by
          refine ⟨if ok then .tuple #[y, .bool b] else y, ?_, ?_⟩
          · rw [q3]
            cases ok with
            | false => exact q2
            | true => exact .tup _ _ (.cons _ _ _ _ q2 (.cons _ _ _ _ (.bool b) .nil))
          · rw [he]
            refine run_v (hrun _ ?_)
            rw [run_bind, checkKey_all hk hb _ _ hN]; dsimp only
            rw [run_bind, f1]; dsimp only
            exact q1
        rcases f2 with ⟨rfl, rfl⟩ | ⟨m, e, p, rfl, g1, rfl, _, g4, _⟩
        · obtain ⟨y, z1, z2⟩ := run_zero (ρ := ρ) (w := w) hz
          refine fin z y false ?_ z2 (by rw [← hu]; cases ok <;> rfl)
          unfold lkT
          rw [run_bind, z1]; rfl
        · exact fin p.1 e.val true rfl g4 (by rw [← hu]; cases ok <;> rfl)
      rcases map_of hW ha hm with ⟨hx, rfl⟩ | ⟨bb, t', en, _, _, hx, _, hw, hr⟩
      · refine main #[] trivial fun v q => ?_
        unfold Instr.lookup
        rw [← hN]
        rw [run_bind, run_underlying hd]; dsimp only
        rw [hx]; dsimp only
        rw [run_bind, run_pure]; dsimp only
        exact q
      · refine main en hr fun v q => ?_
        unfold Instr.lookup
        rw [← hN]
        rw [run_bind, run_underlying hd]; dsimp only
        rw [hx]; dsimp only
        rw [run_bind, run_getObj hw (fun _ _ _ q => by cases q)]; dsimp only
        rw [run_bind, run_pure]; dsimp only
        exact q
end
end Go.Proofs.YtoffclpjhikjkaaGreat.Ev
namespace Go.Proofs.YtoffclpjhikjkaaGreat.Ev
open Go
section
variable {P : Program} {ρ : Ren} {w : World}
theorem solid1_eq {x : AV} {y z : Value} (h : solid1 x = true) (h1 : VR ρ x y) (h2 : VR ρ x z) : y = z ∧ ∀ n, Instr.sameBits n y y = true := by
  unfold solid1 at h
  rw [Bool.or_eq_true, Bool.or_eq_true] at h
  rcases h with (h | h) | h
  · obtain ⟨k, n, e1, _, rfl⟩ := h1.asInt h
    obtain ⟨k', n', e2, _, rfl⟩ := h2.asInt h
    rw [e1] at e2
    injection e2 with _ e3 e4
    have := kc_inj e3
    subst this; subst e4
    exact ⟨rfl, fun n => by unfold Instr.sameBits; simp⟩
  · obtain ⟨n_1, u, e1, _, rfl⟩ := h1.asStr h
    obtain ⟨n', u', e2, _, rfl⟩ := h2.asStr h
    rw [e1] at e2
    injection e2 with _ e3 e4
    subst e3; subst e4
    exact ⟨rfl, fun n => by
      have : (sb n_1 u == sb n_1 u) = true := by first | (rw [← beq_toListBytes]; simp) | (rw [beq_toListBytes]; simp) | simp
      cases n <;> exact this⟩
  · obtain ⟨b, e1, rfl⟩ := h1.asBool h
    obtain ⟨b', e2, rfl⟩ := h2.asBool h
    rw [e1] at e2
    have : b = b' := by
      injection e2 with _ e3
      cases b <;> cases b' <;> first | rfl | cases e3
    subst this
    exact ⟨rfl, fun n => by cases n <;> cases b <;> rfl⟩
theorem solids_eq : ∀ {l : List AV} {xs ys : List Value}, l.all solid1 = true → VRs ρ l xs → VRs ρ l ys → xs = ys ∧ ∀ n, ∀ x ∈ xs, Instr.sameBits n x x = true
  | [], _, _, _, .nil, .nil => ⟨rfl, fun _ x h => by cases h⟩
  | _ :: _, _, _, h, .cons _ _ _ _ a b, .cons _ _ _ _ c d => by
    rw [List.all_cons, Bool.and_eq_true] at h
    obtain ⟨h1, h2⟩ := solid1_eq h.1 a c
    obtain ⟨h3, h4⟩ := solids_eq h.2 b d
    refine ⟨by rw [h1, h3], fun n x hx => ?_⟩
    rcases List.mem_cons.1 hx with q | q
    · rw [q]; exact h2 n
    · exact h4 n x q
theorem solid_eq {x : AV} {y z : Value} (h : solid x = true) (h1 : VR ρ x y) (h2 : VR ρ x z) : y = z ∧ ∀ n, Instr.sameBits (n + 1) y y = true := by
  unfold solid at h
  rw [Bool.or_eq_true, Bool.and_eq_true] at h
  rcases h with h | h
  · obtain ⟨k1, k2⟩ := solid1_eq h h1 h2
    exact ⟨k1, fun n => k2 _⟩
  · obtain ⟨l, xs, rfl, rfl, hv, _⟩ := h1.asAgg h.1
    obtain ⟨l', ys, e, rfl, hv', _⟩ := h2.asAgg h.1
    injection e with _ _ _ _ _ e
    subst e
    obtain ⟨k1, k2⟩ := solids_eq h.2 hv hv'
    have := Array.toList_inj.1 k1
    subst this
    refine ⟨rfl, fun n => ?_⟩
    unfold Instr.sameBits
    rw [Bool.and_eq_true]
    refine ⟨by simp, ?_⟩
    rw [List.all_eq_true]
    intro p hp
    have hz : ∀ (l : List Value), p ∈ l.zip l → p.1 = p.2 ∧ p.1 ∈ l := fun l => by
      induction l with
      | nil => intro h; cases h
      | cons a l ih =>
        intro h
        rcases List.mem_cons.1 (by simpa using h) with q | q
        · rw [q]; exact ⟨rfl, List.mem_cons_self ..⟩
        · obtain ⟨h1, h2⟩ := ih q; exact ⟨h1, List.mem_cons_of_mem _ h2⟩
    obtain ⟨h1, h2⟩ := hz _ hp
    show Instr.sameBits n p.1 p.2 = true
    rw [← h1]; exact k2 n _ h2
theorem stays_run {old new : Value} (N : Nat) (hN : N = 10000) (h : Instr.sameBits N old new = true) : (Instr.keyThatStays old new).run P w = .ok new w := by
  unfold Instr.keyThatStays
  rw [← hN, if_pos h]; rfl
theorem run_setMap {k : Nat} {en : Array MapEntry} {ck : Nat} (ob : Obj) (h : w.heap[k]? = some (.map en ck)) : (setObj k ob).run P w = .ok () { w with heap := w.heap.setIfInBounds k ob } := by
  unfold setObj; simp only [Sem.run, h]
theorem MRs.setE {k v : AV} {key val : Value} (hk : VR ρ k key) (hv : VR ρ v val) : ∀ {es : List (AV × AV × Nat)} {en : List MapEntry} {i : Nat} {e : MapEntry}, MRs ρ es en → en[i]? = some e → MRs ρ (setE (k, v, e.born) es i) (en.modify i fun e => { e with key, val })
  | [], [], i, e, _, h => by simp at h
  | _ :: _, _ :: _, 0, e, hm, h => by
    simp at h; subst h
    exact ⟨hk, hv, rfl, hm.2.2.2⟩
  | p :: es, q :: en, i + 1, e, hm, h => by
    simp at h
    have : Ev.setE (k, v, e.born) (p :: es) (i + 1) = p :: Ev.setE (k, v, e.born) es i := by
      show (bif Nat.beq (i + 1) 0 then _ else _) = _
      rw [beq_f.2 (by omega)]; rfl
    rw [this]
    exact ⟨hm.1, hm.2.1, hm.2.2.1, MRs.setE hk hv hm.2.2.2 h⟩
  | [], _ :: _, _, _, q, _ => q.elim
  | _ :: _, [], _, _, q, _ => q.elim
theorem MRs.snoc {k v : AV} {key val : Value} {c : Nat} (hk : VR ρ k key) (hv : VR ρ v val) : ∀ {es : List (AV × AV × Nat)} {en : List MapEntry}, MRs ρ es en → MRs ρ (es ++ [(k, v, c)]) (en ++ [{ key, val, born := c }])
  | [], [], _ => ⟨hk, hv, rfl, trivial⟩
  | p :: es, q :: en, hm => ⟨hm.1, hm.2.1, hm.2.2.1, MRs.snoc hk hv hm.2.2.2⟩
  | [], _ :: _, q => q.elim
  | _ :: _, [], q => q.elim
theorem MRs.get : ∀ {es : List (AV × AV × Nat)} {en : List MapEntry} {i : Nat} {p : AV × AV × Nat}, MRs ρ es en → es[i]? = some p → ∃ e, en[i]? = some e ∧ VR ρ p.1 e.key ∧ VR ρ p.2.1 e.val ∧ e.born = p.2.2
  | [], [], _, _, _, h => by simp at h
  | a :: es, b :: en, 0, p, hm, h => by simp at h; subst h; exact ⟨b, rfl, hm.1, hm.2.1, hm.2.2.1⟩
  | a :: es, b :: en, i + 1, p, hm, h => by simp at h; simpa using MRs.get hm.2.2.2 h
  | [], _ :: _, _, _, q, _ => q.elim
  | _ :: _, [], _, _, q, _ => q.elim
theorem map_put {v : AW} (hW : WR P ρ v w) {b : Nat} {es es' : List (AV × AV × Nat)} {ck ck' : Nat} {t : Ent} {en en' : Array MapEntry} (hb : v.bl.get b = some (.oth (.map es ck))) (ht : ρ b = some t) (hw : w.heap[t.blk]? = some (.map en ck)) (hm : MRs ρ es' en'.toList) :
    WR P ρ (putM v b es' ck') { w with heap := w.heap.setIfInBounds t.blk (.map en' ck') } ∧ Stp ρ v w ρ (putM v b es' ck') { w with heap := w.heap.setIfInBounds t.blk (.map en' ck') } :=
  oth_put hW hb ht (wr_set hw) ⟨en', rfl, hm⟩
end
section
variable {P : Program} {ρ : Ren} {s s' : St} {w : World} {ev : Operand → Value} {o : Oper}
theorem upd_sound (hW : WR P ρ s.w w) {t : TypeId} {m k x : Operand} {a b c : AV} (ho : o.op = .mapUpdate t m k x) (ha : VR ρ a (ev m)) (hb : VR ρ b (ev k)) (hc : VR ρ c (ev x)) (h : (finU o.dst).f s ((updC P t).f s.w a b c) = some s') : Fin P ρ s w ev o s' := by
  refine finU_sound h (fun v hv => ?_) (by rw [ho]; rfl)
  have he : execOp ev o = (do Instr.mapUpdate t (ev m) (ev k) (ev x); pure Next.skip) := by unfold execOp; rw [ho]
  unfold updC at hv
  cases hd : P.underlying t with
  | none => rw [hd] at hv; cases hv
  | some d =>
    rw [hd] at hv
    cases d <;> first | (cases hv; done) | skip
    rename_i kt el
    dsimp only at hv
    obtain ⟨h6, hv⟩ := ifB_some.1 hv
    rw [Bool.and_eq_true] at h6
    obtain ⟨es, ck, hm, hv⟩ := seqP_some.1 hv
    obtain ⟨r, hf, hv⟩ := seqO_some.1 hv
    obtain ⟨hks, hv⟩ := ifB_some.1 hv
    injection hv with hv
    obtain ⟨dk, hdk⟩ := keyOk_d h6.2
    rcases map_of hW ha hm with ⟨hx, _⟩ | ⟨bb, t', en, e1, hbb, hx, hbl, hw, hr⟩
    · exfalso
      obtain ⟨_, _, _, _, q⟩ := ha.asMap h6.1
      rw [hx] at q; cases q
    · subst e1
      obtain ⟨r', f1, f2⟩ := find_run (w := w) hb hdk hf hr
      obtain ⟨N, hN⟩ : ∃ N, N = 10000 := ⟨_, rfl⟩
      have pre : ∀ res, ((match r' with
          | some (i, _) => do
            let key ← Instr.keyThatStays (((en[i]?).map (·.key)).getD (ev k)) (ev k)
            setObj t'.blk (.map (en.modify i fun e => { e with key, val := ev x }) ck)
          | none => setObj t'.blk (.map (en.push { key := ev k, val := ev x, born := ck }) (ck + 1)) : Sem Unit)).run P w = res → (Instr.mapUpdate t (ev m) (ev k) (ev x)).run P w = res := fun res q => by
        unfold Instr.mapUpdate
        rw [← hN]
        rw [run_bind, run_underlying hd]; dsimp only
        rw [hx]; dsimp only
        rw [run_bind, run_getObj hw (fun _ _ _ q => by cases q)]; dsimp only
        rw [run_bind, checkKey_all h6.2 hb _ _ hN]; dsimp only
        rw [run_bind, f1]; exact q
      rcases f2 with ⟨rfl, rfl⟩ | ⟨i, e, p, rfl, g1, rfl, ⟨k', g3⟩, g4, g5⟩
      · obtain ⟨m1, m2⟩ := map_put (ck' := ck + 1) (en' := en.push { key := ev k, val := ev x, born := ck }) hW hbl hbb hw (by rw [Array.toList_push]; exact MRs.snoc hb hc hr)
        refine ⟨_, .inl ?_, by rw [← hv]; exact m1, by rw [← hv]; exact m2⟩
        rw [he, run_bind, pre _ (run_setMap _ hw)]; rfl
      · have hsame : Instr.sameBits N (((en[i]?).map (·.key)).getD (ev k)) (ev k) = true := by
          have hks' : (match lget es i with | some e => aveq e.1 b && solid b | none => false) = true := hks
          rw [lget_eq, g3] at hks'
          dsimp only at hks'
          rw [Bool.and_eq_true] at hks'
          have e1 : k' = b := aveqN_t _ hks'.1
          subst e1
          obtain ⟨e', n1, n2, _, _⟩ := hr.get g3
          rw [g1] at n1; injection n1 with n1; subst n1
          obtain ⟨s1, s2⟩ := solid_eq hks'.2 n2 hb
          rw [Array.getElem?_toList] at g1
          rw [g1]
          show Instr.sameBits N e.key (ev k) = true
          rw [← s1]
          obtain ⟨M, rfl⟩ : ∃ M, N = M + 1 := ⟨9999, hN⟩
          exact s2 M
        obtain ⟨m1, m2⟩ := map_put (ck' := ck) (es' := setE (b, c, e.born) es i) (en' := en.modify i fun e => { e with key := ev k, val := ev x }) hW hbl hbb hw (by rw [Array.toList_modify]; exact MRs.setE hb hc hr g1)
        rw [g5] at m1 m2
        refine ⟨_, .inl ?_, by rw [← hv]; exact m1, by rw [← hv]; exact m2⟩
        have hrun : (Instr.mapUpdate t (ev m) (ev k) (ev x)).run P w = .ok () { w with heap := w.heap.setIfInBounds t'.blk (.map (en.modify i fun e => { e with key := ev k, val := ev x }) ck) } := by
          refine pre _ ?_
          show Sem.run P (Instr.keyThatStays _ _ >>= fun key => setObj _ _) w = _
          rw [run_bind, stays_run N hN hsame]; exact run_setMap _ hw
        rw [he, run_bind, hrun]
        rfl
end
end Go.Proofs.YtoffclpjhikjkaaGreat.Ev
namespace Go.Proofs.YtoffclpjhikjkaaGreat.Ev
open Go
section
variable {P : Program} {ρ : Ren} {s s' : St} {w : World} {ev : Operand → Value} {o : Oper}
theorem ent_sound (hW : WR P ρ s.w w) {t : TypeId} {m k : Operand} {a b : AV} (ho : o.op = .mapEntry t m k) (ha : VR ρ a (ev m)) (hb : VR ρ b (ev k)) (h : (finW o.dst).f s ((entC P t).f s.w a b) = some s') : Fin P ρ s w ev o s' := by
  refine finW_sound h (fun u v hv => ?_) (.inl (by rw [ho]; rfl))
  have he : execOp ev o = (do pure (Next.value (← Instr.mapEntry t (ev m) (ev k)))) := by unfold execOp; rw [ho]
  unfold entC at hv
  cases hd : P.underlying t with
  | none => rw [hd] at hv; cases hv
  | some d =>
    rw [hd] at hv
    cases d <;> first | (cases hv; done) | skip
    rename_i kt el
    dsimp only at hv
    cases hz : zero P el with
    | none => rw [hz] at hv; cases hv
    | some z =>
    rw [hz] at hv
    dsimp only at hv
    obtain ⟨h6, hv⟩ := ifB_some.1 hv
    rw [Bool.and_eq_true] at h6
    obtain ⟨es, ck, hm, hv⟩ := seqP_some.1 hv
    obtain ⟨hck, hv⟩ := ifB_some.1 hv
    rw [blt_d, decide_eq_true_eq] at hck
    obtain ⟨r, hf, hv⟩ := seqO_some.1 hv
    obtain ⟨hks, hv⟩ := ifB_some.1 hv
    rw [Bool.and_eq_true] at hks
    injection hv with hv
    obtain ⟨dk, hdk⟩ := keyOk_d h6.2
    rcases map_of hW ha hm with ⟨hx, _⟩ | ⟨bb, t', en, e1, hbb, hx, hbl, hw, hr⟩
    · exfalso
      obtain ⟨_, _, _, _, q⟩ := ha.asMap h6.1
      rw [hx] at q; cases q
    · subst e1
      obtain ⟨r', f1, f2⟩ := find_run (w := w) hb hdk hf hr
      obtain ⟨N, hN⟩ : ∃ N, N = 10000 := ⟨_, rfl⟩
      have pre : ∀ res, ((match r' with
          | some (i, v) => do
            let key ← Instr.keyThatStays (((en[i]?).map (·.key)).getD (ev k)) (ev k)
            setObj t'.blk (.map (en.modify i fun e => { e with key }) ck)
            pure (.tuple #[v, goInt (((en[i]?).map (·.born)).getD 0)])
          | none => do
            let zero ← zeroValue el
            setObj t'.blk (.map (en.push { key := ev k, val := zero, born := ck }) (ck + 1))
            pure (.tuple #[zero, goInt ck]) : Sem Value)).run P w = res → (Instr.mapEntry t (ev m) (ev k)).run P w = res := fun res q => by
        unfold Instr.mapEntry
        rw [← hN]
        rw [run_bind, run_underlying hd]; dsimp only
        rw [hx]; dsimp only
        rw [run_bind, run_getObj hw (fun _ _ _ q => by cases q)]; dsimp only
        rw [run_bind, checkKey_all h6.2 hb _ _ hN]; dsimp only
        rw [run_bind, f1]; exact q
      rcases f2 with ⟨rfl, rfl⟩ | ⟨i, e, p, rfl, g1, rfl, ⟨k', g3⟩, g4, g5⟩
      · obtain ⟨zv, z1, z2⟩ := run_zero (ρ := ρ) (w := w) hz
        obtain ⟨m1, m2⟩ := map_put (ck' := ck + 1) (en' := en.push { key := ev k, val := zv, born := ck }) hW hbl hbb hw (by rw [Array.toList_push]; exact MRs.snoc hb z2 hr)
        injection hv with hv hv'
        refine ⟨ρ, .tuple #[zv, .int .i64 (ck : Int)], _, ?_, ?_, by rw [← hv']; exact m1, by rw [← hv']; exact m2⟩
        · rw [he]
          refine run_v (pre _ ?_)
          show Sem.run P (zeroValue el >>= fun zero => setObj _ _ >>= fun _ => pure (Value.tuple #[zero, goInt ck])) w = _
          rw [run_bind, z1]; dsimp only
          rw [run_bind, run_setMap _ hw]; rfl
        · rw [← hv]
          exact .tup _ _ (.cons _ _ _ _ z2 (.cons _ _ _ _ (int_vr2 hck) .nil))
      · have hsame : Instr.sameBits N (((en[i]?).map (·.key)).getD (ev k)) (ev k) = true := by
          have hks' : (match lget es i with | some e => aveq e.1 b && solid b | none => false) = true := hks.2
          rw [lget_eq, g3] at hks'
          dsimp only at hks'
          rw [Bool.and_eq_true] at hks'
          have e1 : k' = b := aveqN_t _ hks'.1
          subst e1
          obtain ⟨e', n1, n2, _, _⟩ := hr.get g3
          rw [g1] at n1; injection n1 with n1; subst n1
          obtain ⟨s1, s2⟩ := solid_eq hks'.2 n2 hb
          rw [Array.getElem?_toList] at g1
          rw [g1]
          show Instr.sameBits N e.key (ev k) = true
          rw [← s1]
          obtain ⟨M, rfl⟩ : ∃ M, N = M + 1 := ⟨9999, hN⟩
          exact s2 M
        have hmod : (en.modify i fun e => { e with key := ev k }).toList = en.toList.modify i fun x => { x with key := ev k, val := e.val } := by
          rw [Array.toList_modify]
          apply List.ext_getElem?
          intro j
          rw [List.getElem?_modify, List.getElem?_modify]
          by_cases hj : i = j
          · subst hj; rw [g1]; simp
          · simp [hj]
        obtain ⟨m1, m2⟩ := map_put (ck' := ck) (es' := setE (b, p.1, e.born) es i) (en' := en.modify i fun e => { e with key := ev k }) hW hbl hbb hw (by rw [hmod]; exact MRs.setE hb g4 hr g1)
        rw [g5] at m1 m2
        injection hv with hv hv'
        have hb0 : p.2 < big := by
          have : Nat.blt p.2 big = true := hks.1
          rw [blt_d, decide_eq_true_eq] at this; exact this
        refine ⟨ρ, .tuple #[e.val, .int .i64 (p.2 : Int)], _, ?_, ?_, by rw [← hv']; exact m1, by rw [← hv']; exact m2⟩
        · rw [he]
          refine run_v (pre _ ?_)
          show Sem.run P (Instr.keyThatStays _ _ >>= fun key => setObj _ _ >>= fun _ => pure (Value.tuple #[e.val, _])) w = _
          rw [run_bind, stays_run N hN hsame]; dsimp only
          rw [run_bind, run_setMap _ hw]; dsimp only
          rw [Array.getElem?_toList] at g1
          rw [g1]
          show Result.ok (Value.tuple #[e.val, goInt e.born]) _ = _
          rw [g5]; rfl
        · rw [← hv]
          exact .tup _ _ (.cons _ _ _ _ g4 (.cons _ _ _ _ (int_vr2 hb0) .nil))
theorem born_run {b : Nat} {v : AV} {val : Value} (hv : VR ρ v val) : ∀ {es es' : List (AV × AV × Nat)} {en : List MapEntry}, putBorn b v es = some es' → MRs ρ es en → ∃ i, en.findIdx? (fun e => (e.born : Int) == (b : Int)) = some i ∧ MRs ρ es' (en.modify i fun e => { e with val := val })
  | [], _, _, h, _ => by cases h
  | p :: es, es', [], _, q => q.elim
  | p :: es, es', e :: en, h, hm => by
    unfold putBorn at h
    rw [List.findIdx?_cons]
    cases hb : Nat.beq p.2.2 b with
    | true =>
      rw [hb] at h
      injection h with h
      rw [beq_t] at hb
      refine ⟨0, by rw [if_pos]; rw [hm.2.2.1, hb]; simp, ?_⟩
      rw [← h]
      exact ⟨hm.1, hv, by rw [← hb]; exact hm.2.2.1, hm.2.2.2⟩
    | false =>
      rw [hb] at h
      obtain ⟨l, h1, h2⟩ := seqO_some.1 h
      injection h2 with h2
      rw [beq_f] at hb
      obtain ⟨i, k1, k2⟩ := born_run hv h1 hm.2.2.2
      refine ⟨i + 1, by rw [if_neg, k1]; rfl; rw [hm.2.2.1]; simp; omega, ?_⟩
      rw [← h2]
      exact ⟨hm.1, hm.2.1, hm.2.2.1, k2⟩
theorem es_sound (hW : WR P ρ s.w w) {t : TypeId} {m k x : Operand} {a b c : AV} (ho : o.op = .entryStore t m k x) (ha : VR ρ a (ev m)) (hb : VR ρ b (ev k)) (hc : VR ρ c (ev x)) (h : (finU o.dst).f s (entSt s.w a b c) = some s') : Fin P ρ s w ev o s' := by
  refine finU_sound h (fun v hv => ?_) (by rw [ho]; rfl)
  have he : execOp ev o = (do Instr.entryStore t (ev m) (ev k) (ev x); pure Next.skip) := by unfold execOp; rw [ho]
  unfold entSt at hv
  obtain ⟨h6, hv⟩ := ifB_some.1 hv
  rw [Bool.and_eq_true, Bool.and_eq_true, Bool.and_eq_true, blt_d, decide_eq_true_eq, beq_t] at h6
  obtain ⟨es, ck, hm, hv⟩ := seqP_some.1 hv
  obtain ⟨es', hp, hv⟩ := seqO_some.1 hv
  injection hv with hv
  obtain ⟨kk, n, e2, hn, e3⟩ := hb.asInt h6.2.1.1
  have hkk : kk = .i64 := by
    have h129 := h6.2.1.2
    rw [e2] at h129
    exact kc_inj (show kc kk = kc .i64 from h129)
  subst hkk
  have hbig : n < big := by have := h6.2.2; rw [e2] at this; exact this
  have e4 : ev k = .int .i64 (n : Int) := by rw [e3, toInt_of_lt (.inr (Nat.lt_trans hbig (by decide)))]
  rcases map_of hW ha hm with ⟨hx, _⟩ | ⟨bb, t', en, e1, hbb, hx, hbl, hw, hr⟩
  · exfalso
    obtain ⟨_, _, _, _, q⟩ := ha.asMap h6.1
    rw [hx] at q; cases q
  · subst e1
    have hp' : putBorn n c es = some es' := by rw [e2] at hp; exact hp
    obtain ⟨i, k1, k2⟩ := born_run hc hp' hr
    obtain ⟨m1, m2⟩ := map_put (ck' := ck) (es' := es') (en' := en.modify i fun e => { e with val := ev x }) hW hbl hbb hw (by rw [Array.toList_modify]; exact k2)
    refine ⟨_, .inl ?_, by rw [← hv]; exact m1, by rw [← hv]; exact m2⟩
    have hrun : (Instr.entryStore t (ev m) (ev k) (ev x)).run P w = .ok () { w with heap := w.heap.setIfInBounds t'.blk (.map (en.modify i fun e => { e with val := ev x }) ck) } := by
      unfold Instr.entryStore
      rw [hx, e4]; dsimp only
      rw [run_bind, run_getObj hw (fun _ _ _ q => by cases q)]; dsimp only
      rw [run_bind]
      show Sem.run P (match en.findIdx? (fun e => (e.born : Int) == (n : Int)) with | some i => _ | none => _) w = _
      have : en.findIdx? (fun e => (e.born : Int) == (n : Int)) = some i := by
        have hf : ∀ p : MapEntry → Bool, en.findIdx? p = en.toList.findIdx? p := fun p => by cases en; simp
        rw [hf]; exact k1
      rw [this]
      exact run_setMap _ hw
    rw [he, run_bind, hrun]; rfl
end
end Go.Proofs.YtoffclpjhikjkaaGreat.Ev
namespace Go.Proofs.YtoffclpjhikjkaaGreat.Ev
open Go
section
variable {P : Program} {ρ : Ren} {s s' : St} {w : World} {ev : Operand → Value} {o : Oper} {c : Call}
theorem rg_sound (hW : WR P ρ s.w w) {t kt el : TypeId} {x : Operand} {a : AV} (ho : o.op = .range t x) (hd : P.underlying t = some (.map kt el)) (ha : VR ρ a (ev x)) (h : (finW o.dst).f s (rgV s.w a) = some s') : Fin P ρ s w ev o s' := by
  refine finW_sound h (fun u v hv => ?_) (.inl (by rw [ho]; rfl))
  have he : execOp ev o = (do pure (Next.value (← Instr.range t (ev x)))) := by unfold execOp; rw [ho]
  unfold rgV at hv
  cases h22 : a.is 22 with
  | true =>
    rw [h22] at hv
    simp only [cond_true] at hv
    obtain ⟨b, v1, h1, h2⟩ := seqP_some.1 hv
    injection h2 with h2; injection h2 with h2 h3
    subst h2; subst h3
    obtain ⟨m1, m2⟩ := oth_add (ob := .mapIter none 0 #[] 0) hW h1 (fun σ _ => rfl)
    rcases ha.asNil (by decide) h22 with ⟨q, _⟩ | ⟨q, _⟩ | ⟨_, hx⟩ | ⟨q, _⟩ | ⟨q, _⟩ | ⟨q, _⟩ <;> first | (exact absurd q (by decide)) | skip
    have hv' := VR.ptr (ρ := ρ.add b ⟨w.heap.size, 0, none⟩) b 0 _ (Ren.add_same _ _ _)
    refine ⟨_, _, _, ?_, hv', m1, m2⟩
    rw [he]
    refine run_v ?_
    unfold Instr.range
    rw [run_bind, run_underlying hd]; dsimp only
    rw [hx]; rfl
  | false =>
    rw [h22] at hv
    simp only [cond_false] at hv
    obtain ⟨h6, hv⟩ := ifB_some.1 hv
    obtain ⟨es, ck, hm, hv⟩ := seqP_some.1 hv
    obtain ⟨b, v1, h1, h2⟩ := seqP_some.1 hv
    injection h2 with h2; injection h2 with h2 h3
    subst h2; subst h3
    rcases map_of hW ha hm with ⟨hx, _⟩ | ⟨bb, t', en, e1, hbb, hx, hbl, hw, hr⟩
    · exfalso
      obtain ⟨_, _, _, _, q⟩ := ha.asMap h6
      rw [hx] at q; cases q
    · subst e1
      obtain ⟨m1, m2⟩ := oth_add (ob := .mapIter (some t'.blk) ck #[] ck) hW h1 (fun σ hσ => ⟨t', hσ _ _ hbb, rfl⟩)
      have hv' := VR.ptr (ρ := ρ.add b ⟨w.heap.size, 0, none⟩) b 0 _ (Ren.add_same _ _ _)
      refine ⟨_, _, _, ?_, hv', m1, m2⟩
      rw [he]
      refine run_v ?_
      unfold Instr.range
      rw [run_bind, run_underlying hd]; dsimp only
      rw [hx]; dsimp only
      rw [run_bind, run_getObj hw (fun _ _ _ q => by cases q)]; rfl
theorem clr_sound (hW : WR P ρ s.w w) {a : AV} {x : Operand} {t : TypeId} (ho : o.op = .call c) (hc : c.callee = .builtin .clear) (hargs : c.args.toList = [x]) (hts : c.argTypes[0]? = some t) {d : TypeDesc} (hd : P.underlying t = some d) (ha : VR ρ a (ev x)) (h : (finU o.dst).f s (clrV s.w a) = some s') : Fin P ρ s w ev o s' := by
  refine finU_sound h (fun v hv => ?_) (by rw [ho]; show (match c.callee with | .builtin b => (match b with | .len | .min | .max | .cap | .complex | .real | .imag => true | _ => false) | _ => false) = false; rw [hc])
  have he : execOp ev o = (do pure (Next.value (← Builtin.clear_ c.argTypes o.type #[ev x]))) := by
    rw [blt_exec ho hc]
    have : c.args.map ev = #[ev x] := by
      apply Array.toList_inj.1; rw [Array.toList_map, hargs]; rfl
    rw [this]; rfl
  have done : ∀ w', (Builtin.clear_ c.argTypes o.type #[ev x]).run P w = .ok (.tuple #[]) w' → (execOp ev o).run P w = .ok (.value undef) w' := fun w' q => by
    rw [he]; exact run_v q
  unfold clrV at hv
  cases h6 : a.is 6 with
  | true =>
    rw [h6] at hv
    simp only [cond_true] at hv
    obtain ⟨es, ck, hm, hv⟩ := seqP_some.1 hv
    injection hv with hv
    rcases map_of hW ha hm with ⟨hx, _⟩ | ⟨bb, t', en, e1, hbb, hx, hbl, hw, hr⟩
    · exfalso
      obtain ⟨_, _, _, _, q⟩ := ha.asMap h6
      rw [hx] at q; cases q
    · subst e1
      obtain ⟨m1, m2⟩ := map_put (ck' := ck) (es' := []) (en' := #[]) hW hbl hbb hw trivial
      refine ⟨_, .inr (done _ ?_), by rw [← hv]; exact m1, by rw [← hv]; exact m2⟩
      unfold Builtin.clear_
      simp only [hts, List.getElem?_toArray, List.getElem?_cons_zero]
      rw [run_bind, run_underlying hd]; dsimp only
      rw [hx]
      cases d <;> (dsimp only; rw [run_bind, run_getObj hw (fun _ _ _ q => by cases q)]; dsimp only; rw [run_bind, run_setMap _ hw]; rfl)
  | false =>
    rw [h6] at hv
    simp only [cond_false] at hv
    obtain ⟨h2, hv⟩ := ifB_some.1 hv
    injection hv with hv
    subst hv
    refine ⟨w, .inr (done _ ?_), hW, Stp.refl _ _ _⟩
    unfold Builtin.clear_
    simp only [hts, List.getElem?_toArray, List.getElem?_cons_zero]
    rw [run_bind, run_underlying hd]; dsimp only
    rw [Bool.or_eq_true] at h2
    rcases h2 with h2 | h2
    · rcases ha.asNil (by decide) h2 with ⟨q, _⟩ | ⟨q, _⟩ | ⟨_, hx⟩ | ⟨q, _⟩ | ⟨q, _⟩ | ⟨q, _⟩ <;> first | (exact absurd q (by decide)) | skip
      rw [hx]
      cases d <;> rfl
    · rcases ha.asNil (by decide) h2 with ⟨q, _⟩ | ⟨_, hx⟩ | ⟨q, _⟩ | ⟨q, _⟩ | ⟨q, _⟩ | ⟨q, _⟩ <;> first | (exact absurd q (by decide)) | skip
      rw [hx]
      cases d <;> rfl
/-! ### The next entry of a map -/
theorem contains_mem {l : List Nat} {k : Nat} : l.toArray.contains k = memN k l := by
  cases h : memN k l with
  | true => rw [memN_t] at h; simpa using h
  | false => rw [memN_f] at h; simpa using h
theorem unseen_rel {seen : List Nat} : ∀ {es : List (AV × AV × Nat)} {en : List MapEntry}, MRs ρ es en → MRs ρ (unseen seen es) (en.filter fun e => !seen.toArray.contains e.born)
  | [], [], _ => trivial
  | p :: es, e :: en, hm => by
    have ih := unseen_rel (seen := seen) hm.2.2.2
    unfold unseen
    rw [List.filter_cons, contains_mem, hm.2.2.1]
    cases memN p.2.2 seen with
    | true => exact ih
    | false => exact ⟨hm.1, hm.2.1, hm.2.2.1, ih⟩
  | [], _ :: _, q => q.elim
  | _ :: _, [], q => q.elim
theorem anyLt_rel {k : Nat} : ∀ {es : List (AV × AV × Nat)} {en : List MapEntry}, MRs ρ es en → anyLt k es = true → (en.all fun e => decide (e.born ≥ k)) = false
  | [], [], _, h => by cases h
  | p :: es, e :: en, hm, h => by
    unfold anyLt at h
    rw [Bool.or_eq_true, blt_d, decide_eq_true_eq] at h
    rw [List.all_cons, Bool.and_eq_false_iff]
    rcases h with h | h
    · left; rw [hm.2.2.1]; simp; omega
    · right; exact anyLt_rel hm.2.2.2 h
  | [], _ :: _, q, _ => q.elim
  | _ :: _, [], q, _ => q.elim
theorem nx_sound (hW : WR P ρ s.w w) {it : Operand} {a : AV} (ho : o.op = .next it false) (ha : VR ρ a (ev it)) (h : (finW o.dst).f s (nxV s.w a) = some s') : Fin P ρ s w ev o s' := by
  refine finW_sound h (fun u v hv => ?_) (.inl (by rw [ho]; rfl))
  have he : execOp ev o = (do pure (Next.value (← Instr.next (ev it) false o.type))) := by unfold execOp; rw [ho]
  unfold nxV at hv
  obtain ⟨h4, hv⟩ := ifB_some.1 hv
  rw [Bool.and_eq_true, beq_t] at h4
  obtain ⟨B, hB, hv⟩ := seqO_some.1 hv
  obtain ⟨b, off, e, e1, hb, hx⟩ := ha.asPtr h4.1
  rw [e1] at hB hv h4
  have hoff : off = 0 := h4.2
  subst hoff
  have done : ∀ (u : AV) (σ : Ren) (y : Value) (v : AW) (w' : World), (Instr.next (ev it) false o.type).run P w = .ok y w' → VR σ u y → WR P σ v w' → Stp ρ s.w w σ v w' → ∃ σ y w', (execOp ev o).run P w = .ok (.value y) w' ∧ VR σ u y ∧ WR P σ v w' ∧ Stp ρ s.w w σ v w' := fun u σ y v w' q1 q2 q3 q4 => ⟨σ, y, w', by rw [he]; exact run_v q1, q2, q3, q4⟩
  have hover : VR ρ (.tup [.bool false]) (.tuple #[.bool false]) := .tup _ _ (.cons _ _ _ _ (.bool false) .nil)
  cases B with
  | cells => cases hv
  | oth q =>
    obtain ⟨ob, k1, k2, k3⟩ := hW.blk _ _ _ hB hb
    have hx' : ev it = .pointer (some ⟨e.blk, 0, none⟩) := by rw [hx, k3]
    cases q <;> first | (cases hv; done) | skip
    rename_i mo since seen last
    cases mo with
    | none =>
      injection hv with hv; injection hv with hv1 hv2
      subst hv1; subst hv2
      have k2 : ob = .mapIter none since seen.toArray last := k2
      subst k2
      refine done _ ρ _ _ w ?_ hover hW (Stp.refl _ _ _)
      rw [hx']
      simp only [Instr.next, getObj, Sem.run_bind, Sem.run, k1, Result.andThen]; rfl
    | some m =>
      obtain ⟨em, hem, rfl⟩ := k2
      obtain ⟨B2, hB2, hv⟩ := seqO_some.1 (show seqO (s.w.bl.get m) (fun x => nx1 s.w b m since seen last x) = some (u, v) from hv)
      cases B2 with
      | cells => cases hv
      | oth q2 =>
        cases q2 <;> first | (cases hv; done) | skip
        rename_i es ck
        obtain ⟨hcond, hv⟩ := ifB_some.1 (show ifB (seen.isEmpty || es.isEmpty || anyLt last es) (nx2 s.w b m since seen ck (unseen seen es)) = some (u, v) from hv)
        obtain ⟨ob2, g1, ⟨en, rfl, hr⟩, _⟩ := hW.blk _ _ _ hB2 hem
        have hno : (!seen.toArray.isEmpty && !en.isEmpty && en.all fun e => decide (e.born ≥ last)) = false := by
          rw [Bool.or_eq_true, Bool.or_eq_true] at hcond
          rcases hcond with (hc | hc) | hc
          · have : seen = [] := by simpa using hc
            subst this; rfl
          · have : es = [] := by simpa using hc
            subst this
            cases hl : en.toList with
            | nil =>
              have : en = #[] := by apply Array.toList_inj.1; rw [hl]
              subst this; simp
            | cons => rw [hl] at hr; exact hr.elim
          · have := anyLt_rel hr hc
            rw [← Array.all_toList, this]; simp
        have hun := unseen_rel (seen := seen) hr
        have hleft : (en.filter fun e => !seen.toArray.contains e.born).toList = en.toList.filter fun e => !seen.toArray.contains e.born := Array.toList_filter ..
        rw [← hleft] at hun
        generalize hl : (en.filter fun e => !seen.toArray.contains e.born) = left at hun
        have pre : ∀ res, ((do
            let old := left.filter (·.born < since)
            let new := left.filter (·.born ≥ since)
            let candidates := (if old.isEmpty then #[none] else #[]) ++ (old ++ new).map some
            match candidates[← choose (.mapNext candidates.size)]? with
            | some (some e') =>
              setObj e.blk (.mapIter (some em.blk) since (seen.toArray.push e'.born) ck)
              pure (.tuple #[.bool true, e'.key, e'.val])
            | some none => pure (.tuple #[.bool false])
            | none => stuck "Next: no such candidate" : Sem Value)).run P w = res → (Instr.next (ev it) false o.type).run P w = res := fun res q => by
          rw [← q, hx']
          simp only [Instr.next, getObj, Sem.run_bind, Sem.run, k1, g1, Result.andThen, hno, hl, Bool.false_eq_true, if_false]
          rfl
        cases hus : unseen seen es with
        | nil =>
          rw [hus] at hv hun
          injection hv with hv; injection hv with hv1 hv2
          subst hv1; subst hv2
          have hln : left = #[] := by
            cases hq : left.toList with
            | nil => apply Array.toList_inj.1; rw [hq]
            | cons => rw [hq] at hun; exact hun.elim
          subst hln
          refine done _ ρ _ _ w (pre _ ?_) hover hW (Stp.refl _ _ _)
          have f1 : (#[] : Array MapEntry).filter (fun e => decide (e.born < since)) = #[] := by simp
          have f2 : (#[] : Array MapEntry).filter (fun e => decide (e.born ≥ since)) = #[] := by simp
          have fc : ((if (#[] : Array MapEntry).isEmpty = true then (#[none] : Array (Option MapEntry)) else #[]) ++ ((#[] : Array MapEntry) ++ #[]).map some) = #[none] := by simp
          simp only [f1, f2, fc]
          rfl
        | cons p l =>
          rw [hus] at hv hun
          cases l with
          | cons => cases hv
          | nil =>
            obtain ⟨hlt, hv⟩ := ifB_some.1 hv
            rw [blt_d, decide_eq_true_eq] at hlt
            injection hv with hv; injection hv with hv1 hv2
            subst hv1; subst hv2
            obtain ⟨e', hle⟩ : ∃ e', left = #[e'] := by
              cases hq : left.toList with
              | nil => rw [hq] at hun; exact hun.elim
              | cons e' l' =>
                rw [hq] at hun
                cases l' with
                | cons => exact hun.2.2.2.elim
                | nil => exact ⟨e', by apply Array.toList_inj.1; rw [hq]⟩
            subst hle
            have hun' : VR ρ p.1 e'.key ∧ VR ρ p.2.1 e'.val ∧ e'.born = p.2.2 ∧ True := hun
            obtain ⟨m1, m2⟩ := oth_put (q' := .mit (some m) since (seen ++ [p.2.2]) ck) (ob := .mapIter (some em.blk) since (seen.toArray.push e'.born) ck) hW hB hb (wr_set k1) ⟨em, hem, by rw [hun'.2.2.1]; simp⟩
            refine done _ ρ (.tuple #[.bool true, e'.key, e'.val]) _ _ (pre _ ?_) (.tup _ _ (.cons _ _ _ _ (.bool true) (.cons _ _ _ _ hun'.1 (.cons _ _ _ _ hun'.2.1 .nil)))) m1 m2
            have hb1 : e'.born < since := by rw [hun'.2.2.1]; exact hlt
            have hset : (setObj e.blk (.mapIter (some em.blk) since (seen.toArray.push e'.born) ck)).run P w = .ok () { w with heap := w.heap.setIfInBounds e.blk (.mapIter (some em.blk) since (seen.toArray.push e'.born) ck) } := by
              unfold setObj; simp only [Sem.run, k1]
            have f1 : (#[e'] : Array MapEntry).filter (fun e => decide (e.born < since)) = #[e'] := by simp [hb1]
            have f2 : (#[e'] : Array MapEntry).filter (fun e => decide (e.born ≥ since)) = #[] := by simp; omega
            have fc : ((if (#[e'] : Array MapEntry).isEmpty = true then (#[none] : Array (Option MapEntry)) else #[]) ++ ((#[e'] : Array MapEntry) ++ #[]).map some) = #[some e'] := by simp
            simp only [f1, f2, fc]
            show Sem.run P (choose (.mapNext 1) >>= fun i => (match (#[some e'] : Array (Option MapEntry))[i]? with
              | some (some e') => (setObj e.blk (.mapIter (some em.blk) since (seen.toArray.push e'.born) ck) >>= fun _ => pure (.tuple #[.bool true, e'.key, e'.val]))
              | some none => pure (.tuple #[.bool false])
              | none => stuck "Next: no such candidate" : Sem Value)) w = _
            rw [run_bind]
            show Sem.run P (setObj e.blk (.mapIter (some em.blk) since (seen.toArray.push e'.born) ck) >>= fun _ => pure (Value.tuple #[.bool true, e'.key, e'.val])) w = _
            rw [run_bind, hset]; rfl
end
end Go.Proofs.YtoffclpjhikjkaaGreat.Ev
namespace Go.Proofs.YtoffclpjhikjkaaGreat.Ev
open Go
section
variable {P : Program} {ρ : Ren} {s s' : St} {w : World} {ev : Operand → Value} {o : Oper} {c : Call}
theorem killAll_get {me : Nat} : ∀ (l : List Nat) (bl : PT Blk), (∀ j ∈ l, j < big) → ∀ i, (killAll me l bl).get i = bl.get i ∨ ((killAll me l bl).get i = none ∧ i ∈ l ∧ i ≠ me ∧ ∃ cs n e lo gp sh f hh, bl.get i = some (.cells cs n e lo gp sh f hh))
  | [], bl, _, i => .inl rfl
  | j :: l, bl, hl, i => by
    have hj := hl j (List.mem_cons_self ..)
    have hl' : ∀ k ∈ l, k < big := fun k hk => hl k (List.mem_cons_of_mem _ hk)
    have same : killAll me (j :: l) bl = killAll me l bl → (killAll me (j :: l) bl).get i = bl.get i ∨ ((killAll me (j :: l) bl).get i = none ∧ i ∈ j :: l ∧ i ≠ me ∧ ∃ cs n e lo gp sh f hh, bl.get i = some (.cells cs n e lo gp sh f hh)) := fun e => by
      rw [e]
      rcases killAll_get (me := me) l bl hl' i with q | ⟨q1, q2, q3, q4⟩
      · exact .inl q
      · exact .inr ⟨q1, List.mem_cons_of_mem _ q2, q3, q4⟩
    cases hm : Nat.beq j me with
    | true =>
      refine same ?_
      conv => lhs; unfold killAll
      rw [hm]; rfl
    | false =>
      cases hb : bl.get j with
      | none =>
        refine same ?_
        conv => lhs; unfold killAll
        rw [hm, hb]; rfl
      | some B =>
        cases B with
        | oth q =>
          refine same ?_
          conv => lhs; unfold killAll
          rw [hm, hb]; rfl
        | cells cs n e lo gp sh f hh =>
          have e1 : killAll me (j :: l) bl = killAll me l (bl.set j none) := by
            conv => lhs; unfold killAll
            rw [hm, hb]; rfl
          rw [beq_f] at hm
          rw [e1]
          have hset : (bl.set j none).get i = if i = j then none else bl.get i := PT.get_set _ _ _ _ hj
          rcases killAll_get (me := me) l (bl.set j none) hl' i with q | ⟨q1, q2, q3, q4⟩
          · by_cases hij : i = j
            · subst hij
              rw [if_pos rfl] at hset
              exact .inr ⟨by rw [q, hset], List.mem_cons_self .., hm, cs, n, e, lo, gp, sh, f, hh, hb⟩
            · rw [if_neg hij] at hset
              exact .inl (q.trans hset)
          · by_cases hij : i = j
            · subst hij
              rw [if_pos rfl] at hset
              obtain ⟨_, _, _, _, _, _, _, _, q5⟩ := q4
              rw [hset] at q5; cases q5
            · rw [if_neg hij] at hset
              rw [hset] at q4
              exact .inr ⟨q1, List.mem_cons_of_mem _ q2, q3, q4⟩
theorem killAll_none {me : Nat} : ∀ (l : List Nat) (bl : PT Blk), (∀ j ∈ l, j < big) → ∀ i, i ∈ l → i ≠ me → ∀ cs n e lo gp sh f hh, (killAll me l bl).get i ≠ some (.cells cs n e lo gp sh f hh)
  | [], _, _, i, h, _, _, _, _, _, _, _, _, _ => by cases h
  | j :: l, bl, hl, i, hi, hne, cs, n, e, lo, gp, sh, f, hh => by
    have hj := hl j (List.mem_cons_self ..)
    have hl' : ∀ k ∈ l, k < big := fun k hk => hl k (List.mem_cons_of_mem _ hk)
    intro hq
    have hq' : (killAll me l (bif Nat.beq j me then bl else match bl.get j with | some (.cells ..) => bl.set j none | _ => bl)).get i = some (.cells cs n e lo gp sh f hh) := hq
    rcases List.mem_cons.1 hi with q | q
    · subst q
      rw [beq_f.2 hne] at hq'
      simp only [cond_false] at hq'
      have hpre : ∀ bl' : PT Blk, (∀ cs n e lo gp sh f hh, bl'.get i ≠ some (.cells cs n e lo gp sh f hh)) → (killAll me l bl').get i ≠ some (.cells cs n e lo gp sh f hh) := fun bl' hb' hq2 => by
        rcases killAll_get l bl' hl' i with q | ⟨q1, _⟩
        · rw [q] at hq2; exact hb' _ _ _ _ _ _ _ _ hq2
        · rw [q1] at hq2; cases hq2
      cases hb : bl.get i with
      | none => rw [hb] at hq'; exact hpre bl (fun _ _ _ _ _ _ _ _ q => by rw [hb] at q; cases q) hq'
      | some B =>
        rw [hb] at hq'
        cases B with
        | oth q => exact hpre bl (fun _ _ _ _ _ _ _ _ q => by rw [hb] at q; cases q) hq'
        | cells =>
          refine hpre (bl.set i none) (fun _ _ _ _ _ _ _ _ q => ?_) hq'
          rw [PT.get_set _ _ _ _ hj, if_pos rfl] at q; cases q
    · exact killAll_none l _ hl' i q hne cs n e lo gp sh f hh hq'
theorem liesAt_off {e : TypeId} (hc : P.cellsOf e = 1) (count off n : Nat) (hn : off + n ≤ count) : liesAt P P.depth e count off e n = true := by
  have hd : P.depth = (2 * (P.types.size + Made.depth) + 1) + 1 := rfl
  rw [hd]
  simp only [liesAt, Bool.or_eq_true]
  left
  rw [hd]
  simp [rowAt, hc, hn, sameLayout, Nat.mod_one]
theorem freeze_heap {k off n : Nat} {C : Array Value} {e : TypeId} {fz : Nat × Nat} (h : w.heap[k]? = some (.cells C e fz)) (h0 : n ≠ 0) : Wr w (w.freeze ⟨k, off, none⟩ n) k (.cells C e (if fz.1 == fz.2 then (off, off + n) else (min fz.1 off, max fz.2 (off + n)))) := by
  unfold World.freeze
  rw [if_neg h0]
  refine ⟨fun j => ?_, by simp, rfl, rfl, rfl⟩
  dsimp only
  rw [Array.getElem?_modify]
  by_cases hj : k = j
  · subst hj; rw [if_pos rfl, if_pos rfl, h]; rfl
  · rw [if_neg hj, if_neg (fun q => hj q.symm)]
theorem us_run {pt e : TypeId} {ty : TypeId} {ts : Array TypeId} {k : IntKind} {t : Ent} {q n : Nat} {C : Array Value} {fz : Nat × Nat} {bs : List UInt8} (hts : ts[0]? = some pt) (hp : P.underlying pt = some (.pointer e)) (hc : P.cellsOf e = 1) (hw : w.heap[t.blk]? = some (.cells C e fz)) (hn : t.sh + q + n ≤ C.size) (h0 : n ≠ 0) (hbig : n < big) (hl : bs.length = n) (hb : (C.toList.drop (t.sh + q)).take n = bs.map (fun b => Value.int .u8 b.toNat)) :
    (Builtin.unsafeString_ ts ty #[.pointer (some ⟨t.blk, t.sh + q, none⟩), .int k (n : Int)]).run P w = .ok (.string ⟨bs.toArray⟩) (w.freeze ⟨t.blk, t.sh + q, none⟩ n) := by
  have hcell : ∀ j x, bs[j]? = some x → w.cell? ((⟨t.blk, t.sh + q, none⟩ : Addr).add j) = some (.int .u8 x.toNat) := fun j x hj => by
    rw [add_off rfl, cell_row hw]
    have hjn : j < n := by rw [← hl]; exact (List.getElem?_eq_some_iff.1 hj).1
    have : (bs.map fun b => Value.int .u8 b.toNat)[j]? = some (.int .u8 x.toNat) := by rw [List.getElem?_map, hj]; rfl
    rw [← hb, List.getElem?_take_of_lt hjn, List.getElem?_drop] at this
    simpa using this
  have hlb := Lib.run_loadBytes (P := P) w bs ⟨t.blk, t.sh + q, none⟩ .empty hcell
  have hlies := liesAt_off (P := P) hc (C.size / P.cellsOf e) (t.sh + q) n (by rw [hc]; simpa using hn)
  have hmax : IntKind.i64.max = 9223372036854775807 := rfl
  have hdef : Builtin.unsafeString_ ts ty #[.pointer (some ⟨t.blk, t.sh + q, none⟩), .int k (n : Int)] =
      (do
        let n ← asInt (.int k (n : Int))
        let some pt := ts[0]? | stuck "unsafe.String: no argument types"
        if n < 0 then runtimePanic (.error "unsafe.String: len out of range")
        if n > IntKind.i64.max then unsupported (.unsafePointer "String: a length above the largest int")
        if n = 0 then pure (.string .empty)
        else if ← variablesAt ⟨t.blk, t.sh + q, none⟩ (← elemOf pt) n.toNat then do
          let s ← loadBytes ⟨t.blk, t.sh + q, none⟩ .empty n.toNat
          freeze ⟨t.blk, t.sh + q, none⟩ n.toNat
          pure (.string s)
        else unsupported (.unsafePointer "String: not so many bytes at ptr")) := rfl
  have hneg : ¬ (n : Int) < 0 := by omega
  have h63 : ¬ (9223372036854775807 : Int) < (n : Int) := by unfold big at hbig; omega
  have hn0 : ¬ (n : Int) = 0 := by omega
  have hsh : w.shape? t.blk = some (e, C.size) := by
    have := run_shape' (P := P) hw
    injection this
  rw [hl] at hlb
  rw [hdef]
  simp [asInt, asIntOf, hmax, h63, hneg, h0, variablesAt, hsh, elemOf, run_underlying hp, hlies, hlb, hts, Sem.run_bind, Result.andThen]
theorem us_sound (hW : WR P ρ s.w w) {a b : AV} {x y : Operand} {t pe : TypeId} (ho : o.op = .call c) (hc : c.callee = .builtin .unsafeString) (hargs : c.args.toList = [x, y]) (hts : c.argTypes[0]? = some t) (hp : P.underlying t = some (.pointer pe)) (ha : VR ρ a (ev x)) (hb : VR ρ b (ev y)) (h : (finW o.dst).f s (usV P s.w pe a b) = some s') : Fin P ρ s w ev o s' := by
  refine finW_sound h (fun u v hv => ?_) (.inl (by rw [ho]; show (match c.callee with | .builtin b => (match b with | .len | .min | .max | .cap | .complex | .real | .imag => true | _ => false) | _ => false) = false; rw [hc]))
  have he : execOp ev o = (do pure (Next.value (← Builtin.unsafeString_ c.argTypes o.type #[ev x, ev y]))) := by
    rw [blt_exec ho hc, arg2 hargs]; rfl
  unfold usV at hv
  obtain ⟨hi, hv⟩ := ifB_some.1 hv
  rw [Bool.and_eq_true, blt_d, decide_eq_true_eq] at hi
  obtain ⟨k, hy⟩ := idx_val hb hi.1 (Nat.lt_trans hi.2 (by decide))
  have hmax : IntKind.i64.max = 9223372036854775807 := rfl
  cases h0 : Nat.beq b.y 0 with
  | true =>
    rw [h0] at hv
    simp only [cond_true] at hv
    rw [beq_t] at h0
    cases hpp : (a.is 20 || a.is 4) with
    | false => rw [hpp] at hv; cases hv
    | true =>
      rw [hpp] at hv
      injection hv with hv; injection hv with hv1 hv2
      subst hv1; subst hv2
      obtain ⟨p, hx⟩ : ∃ p, ev x = .pointer p := by
        rw [Bool.or_eq_true] at hpp
        rcases hpp with q | q
        · rcases ha.asNil (by decide) q with ⟨_, hx⟩ | ⟨q, _⟩ | ⟨q, _⟩ | ⟨q, _⟩ | ⟨q, _⟩ | ⟨q, _⟩ <;> first | (exact absurd q (by decide)) | exact ⟨_, hx⟩
        · obtain ⟨_, _, _, _, _, hx⟩ := ha.asPtr q
          exact ⟨_, hx⟩
      refine ⟨ρ, .string (sb 0 0), w, ?_, .str 0 0 (by decide), hW, Stp.refl _ _ _⟩
      rw [he]
      refine run_v ?_
      rw [hx, hy, h0]
      cases p with
      | none =>
        have hdef : Builtin.unsafeString_ c.argTypes o.type #[.pointer none, .int k ((0 : Nat) : Int)] =
            (do
              let n ← asInt (.int k ((0 : Nat) : Int))
              let some _ := c.argTypes[0]? | stuck "unsafe.String: no argument types"
              if n < 0 then runtimePanic (.error "unsafe.String: len out of range")
              if n > IntKind.i64.max then unsupported (.unsafePointer "String: a length above the largest int")
              if n = 0 then pure (.string .empty)
              else runtimePanic (.error "unsafe.String: ptr is nil and len is not zero")) := rfl
        rw [hdef]
        simp [asInt, asIntOf, hmax, hts, Sem.run_bind, Result.andThen]
        rfl
      | some ad =>
        have hdef : Builtin.unsafeString_ c.argTypes o.type #[.pointer (some ad), .int k ((0 : Nat) : Int)] =
            (do
              let n ← asInt (.int k ((0 : Nat) : Int))
              let some pt := c.argTypes[0]? | stuck "unsafe.String: no argument types"
              if n < 0 then runtimePanic (.error "unsafe.String: len out of range")
              if n > IntKind.i64.max then unsupported (.unsafePointer "String: a length above the largest int")
              if n = 0 then pure (.string .empty)
              else if ← variablesAt ad (← elemOf pt) n.toNat then do
                let s ← loadBytes ad .empty n.toNat
                freeze ad n.toNat
                pure (.string s)
              else unsupported (.unsafePointer "String: not so many bytes at ptr")) := rfl
        rw [hdef]
        simp [asInt, asIntOf, hmax, hts, Sem.run_bind, Result.andThen]
        rfl
  | false =>
    rw [h0] at hv
    simp only [cond_false] at hv
    rw [beq_f] at h0
    obtain ⟨h4, hv⟩ := ifB_some.1 hv
    obtain ⟨B, hB, hv⟩ := seqO_some.1 hv
    obtain ⟨bb, q, t', rfl, hbb, hx⟩ := ha.asPtr h4
    cases B with
    | oth => cases hv
    | cells cs kk e lo gp sh f hh =>
      obtain ⟨hck, hv3⟩ := ifB_some.1 (show ifB (Nat.beq e pe && (u8T P e && szOk P e) && Nat.ble (q + b.y) kk) (seqO (ptPart cs b.y q) fun l => seqO (packA l) fun v => some (AV.str b.y v, AW.put ⟨s.w.nx, killAll bb (lO (s.w.gr.get gp)) s.w.bl, s.w.gr⟩ bb (.cells cs kk e lo gp sh 0 (bif Nat.ble hh (q + b.y) then q + b.y else hh)))) = some (u, v) from hv)
      rw [Bool.and_eq_true, Bool.and_eq_true, Bool.and_eq_true, beq_t, ble_d, decide_eq_true_eq] at hck
      obtain ⟨⟨rfl, h8, hsz⟩, hle⟩ := hck
      obtain ⟨l, hl, hv4⟩ := seqO_some.1 hv3
      obtain ⟨vv, hpk, hv5⟩ := seqO_some.1 hv4
      injection hv5 with hv5; injection hv5 with hv1 hv2
      obtain ⟨C, fz, g1, g2⟩ := hW.blk _ _ _ hB hbb
      obtain ⟨m1, m2⟩ := ptPart_vr g2.cell _ _ _ hl hle
      obtain ⟨bs, g5, g6⟩ := packA_sb l vv _ hpk m1
      have hll : l.length = b.y := by
        have := m1.length
        have hs := g2.size
        rw [this]; simp; omega
      rw [hll] at g6
      have hbl : bs.length = b.y := by rw [← g6]; simp [u8s, bytes_len]
      have hsb : sb b.y vv = ⟨bs.toArray⟩ := by unfold sb; rw [← g6]; rfl
      obtain ⟨st, hst, _, rfl⟩ := szOk_t hsz
      have hcell : P.cellsOf e = 1 := by
        obtain ⟨i, hi1, hi2⟩ := Option.map_eq_some_iff.1 hst
        unfold Program.cellsOf; rw [hi1]; simpa using hi2
      have hrun := us_run (w := w) (k := k) (ty := o.type) (t := t') (q := q) (n := b.y) hts hp hcell g1 (by have := g2.size; omega) h0 hi.2 hbl g5
      have hWr := freeze_heap (off := t'.sh + q) (n := b.y) g1 h0
      have hblt : bb < big := Nat.lt_of_lt_of_le (hW.nxB _ _ hB) hW.nx
      obtain ⟨L, gL, gm⟩ := hW.grp _ _ _ _ _ _ _ _ _ hB
      have hLb : ∀ j ∈ L, j < big := fun j hj => Nat.lt_of_lt_of_le ((hW.grN _ _ gL).2 j hj) hW.nx
      have hlO : lO (s.w.gr.get gp) = L := by rw [gL]; rfl
      have hget : ∀ j, v.bl.get j = if j = bb then some (.cells cs kk e lo gp sh 0 (bif Nat.ble hh (q + b.y) then q + b.y else hh)) else (killAll bb L s.w.bl).get j := fun j => by
        rw [← hv2, hlO]; exact PT.get_set _ _ _ _ hblt
      obtain ⟨r1, r2⟩ := hW.upd (v' := v) (B' := .cells cs kk e lo gp sh 0 (bif Nat.ble hh (q + b.y) then q + b.y else hh)) hB hbb hWr ⟨rfl, rfl, rfl, rfl, rfl⟩ (by rw [← hv2]; rfl) (by rw [← hv2]; rfl) (by rw [hget, if_pos rfl]) (by
        refine ⟨C, _, by rw [hWr.heap, if_pos rfl], g2.ex, g2.lo, g2.cell, ?_⟩
        have hfz := g2.fz
        have hmx : q + b.y ≤ (bif Nat.ble hh (q + b.y) then q + b.y else hh) ∧ hh ≤ (bif Nat.ble hh (q + b.y) then q + b.y else hh) := by
          rw [ble_d]
          by_cases h : hh ≤ q + b.y <;> simp [h]
          omega
        unfold FZ at hfz ⊢
        refine .inr ⟨.inl rfl, ?_⟩
        by_cases hf : fz.1 = fz.2
        · rw [if_pos (by simp [hf])]; dsimp only; omega
        · rw [if_neg (by simp [hf])]
          have : fz.2 ≤ t'.sh + hh := by
            rcases hfz with z | z
            · exact absurd z hf
            · exact z.2
          have hm := Nat.max_le.2 ⟨(show fz.2 ≤ t'.sh + (bif Nat.ble hh (q + b.y) then q + b.y else hh) by omega), (show t'.sh + q + b.y ≤ t'.sh + (bif Nat.ble hh (q + b.y) then q + b.y else hh) by omega)⟩
          exact hm) (fun j hj => by
        rw [hget, if_neg hj]
        rcases killAll_get L s.w.bl hLb j with z | ⟨z1, z2, z3, cs2, n2, e2, lo2, gp2, sh2, f2, h2, z4⟩
        · exact .inl z
        · exact .inr ⟨z1, _, _, _, _, _, _, _, _, _, _, _, _, _, _, _, _, L, rfl, z4, gL, z2⟩) (fun j B2 t2 hj q1 q2 q3 q4 => by
        rw [hget, if_neg hj] at q1
        cases B2 with
        | oth o2 =>
          obtain ⟨ob, p1, p2, _⟩ := hW.blk _ _ _ q2 q3
          rw [q4, g1] at p1; injection p1 with p1
          rw [← p1] at p2
          exact absurd p2 OR.not_cells
        | cells cs2 n2 e2 lo2 gp2 sh2 f2 h2 =>
          obtain ⟨hg, _⟩ := hW.alias _ _ _ _ _ _ _ _ _ _ _ _ _ _ _ _ _ _ _ _ q2 hB q3 hbb hj q4
          subst hg
          obtain ⟨L2, gL2, gm2⟩ := hW.grp _ _ _ _ _ _ _ _ _ q2
          rw [gL] at gL2; injection gL2 with gL2; subst gL2
          exact absurd q1 (killAll_none L s.w.bl hLb j gm2 hj _ _ _ _ _ _ _ _))
      refine ⟨ρ, .string (sb b.y vv), _, ?_, by rw [← hv1]; exact .str _ _ hi.2, r1, r2⟩
      rw [he, hsb]
      refine run_v ?_
      rw [hx, hy]
      exact hrun
end
end Go.Proofs.YtoffclpjhikjkaaGreat.Ev
namespace Go.Proofs.YtoffclpjhikjkaaGreat.Ev
open Go
section
variable {P : Program} {ρ : Ren} {s s' : St} {w : World} {ev : Operand → Value} {o : Oper} {c : Call} {K : Operand → Bool}
/-- builtins -/
theorem blt_sound (hW : WR P ρ s.w w) (hev : EvOk ρ K s.tm ev) {b : Builtin} (ho : o.op = .call c) (hc : c.callee = .builtin b) (hK : ∀ x ∈ c.args.toList, K x = true) {rec : Rec} (h : (bltC P b c.argTypes.toList o.dst c.args.toList).f rec s = some s') : Fin P ρ s w ev o s' := by
  have hv : ∀ x ∈ c.args.toList, VR ρ ((fetch x).f s.tm) (ev x) := fun x hx => hev x (hK x hx)
  have one : ∀ {k : Operand → Fn1 (Rec → St → R1)}, (a1 c.args.toList k).f rec s = some s' → ∃ x, c.args.toList = [x] ∧ (k x).f rec s = some s' := fun {k} q => by
    unfold a1 at q
    cases hl : c.args.toList with
    | nil => rw [hl] at q; cases q
    | cons x l =>
      cases l with
      | cons => rw [hl] at q; cases q
      | nil => rw [hl] at q; exact ⟨x, rfl, q⟩
  have two : ∀ {k : Operand → Operand → Fn1 (Rec → St → R1)}, (a2 c.args.toList k).f rec s = some s' → ∃ x y, c.args.toList = [x, y] ∧ (k x y).f rec s = some s' := fun {k} q => by
    unfold a2 at q
    cases hl : c.args.toList with
    | nil => rw [hl] at q; cases q
    | cons x l =>
      cases l with
      | nil => rw [hl] at q; cases q
      | cons y l =>
        cases l with
        | cons => rw [hl] at q; cases q
        | nil => rw [hl] at q; exact ⟨x, y, rfl, q⟩
  cases b <;> first | (cases h; done) | skip
  case append =>
    obtain ⟨x, y, hl, h⟩ := two h
    exact ap_sound hW ho hc hl (hv x (by rw [hl]; simp)) (hv y (by rw [hl]; simp)) h
  case copy =>
    obtain ⟨x, y, hl, h⟩ := two h
    exact cp_sound hW ho hc hl (hv x (by rw [hl]; simp)) (hv y (by rw [hl]; simp)) h
  case len =>
    obtain ⟨x, hl, h⟩ := one h
    exact len_sound hW ho hc hl (hv x (by rw [hl]; simp)) h
  case cap =>
    obtain ⟨x, hl, h⟩ := one h
    exact cap_sound hW ho hc hl (hv x (by rw [hl]; simp)) h
  case clear =>
    obtain ⟨x, hl, h⟩ := one h
    cases hts : c.argTypes.toList with
    | nil => rw [hts] at h; cases h
    | cons t l =>
      rw [hts] at h
      dsimp only at h
      cases hp : P.underlying t with
      | none => rw [hp] at h; cases h
      | some d =>
        rw [hp] at h
        exact clr_sound hW ho hc hl (one_arg hts rfl) hp (hv x (by rw [hl]; simp)) h
  case min =>
    exact mm_sound (mx := false) hW hev ho (by rw [hc]; rfl) (List.all_eq_true.2 hK) h
  case max =>
    exact mm_sound (mx := true) hW hev ho (by rw [hc]; rfl) (List.all_eq_true.2 hK) h
  case complex =>
    obtain ⟨x, y, hl, h⟩ := two h
    obtain ⟨h1, h2⟩ := ifB_some.1 h
    exact complex_sound hW ho hc hl (hv x (by rw [hl]; simp)) (hv y (by rw [hl]; simp)) h1 h2
  case real =>
    obtain ⟨x, hl, h⟩ := one h
    obtain ⟨h1, h2⟩ := ifB_some.1 h
    exact real_sound hW ho hc hl (hv x (by rw [hl]; simp)) h1 h2
  case imag =>
    obtain ⟨x, hl, h⟩ := one h
    obtain ⟨h1, h2⟩ := ifB_some.1 h
    exact imag_sound hW ho hc hl (hv x (by rw [hl]; simp)) h1 h2
  case unsafeSliceData =>
    obtain ⟨x, hl, h⟩ := one h
    exact slD_sound hW ho hc hl (hv x (by rw [hl]; simp)) h
  case unsafeString =>
    obtain ⟨x, y, hl, h⟩ := two h
    cases hts : c.argTypes.toList with
    | nil => rw [hts] at h; cases h
    | cons t l =>
      rw [hts] at h
      dsimp only at h
      cases hp : P.underlying t with
      | none => rw [hp] at h; cases h
      | some d =>
        rw [hp] at h
        cases d <;> first | (cases h; done) | skip
        exact us_sound hW ho hc hl (one_arg hts rfl) hp (hv x (by rw [hl]; simp)) (hv y (by rw [hl]; simp)) h
end
end Go.Proofs.YtoffclpjhikjkaaGreat.Ev
namespace Go.Proofs.YtoffclpjhikjkaaGreat.Ev
open Go
section
variable {P : Program} {ρ : Ren} {s s' : St} {w : World} {ev : Operand → Value} {o : Oper} {c : Call} {K : Operand → Bool}
theorem oOk_of {x : Option Operand} (h : ∀ y, x = some y → K y = true) : oOk K x = true := by
  cases x with
  | none => rfl
  | some y => exact h y rfl
/-- every operation but a call of a function -/
theorem op_fin (hW : WR P ρ s.w w) (hev : EvOk ρ K s.tm ev) (hK : ∀ x ∈ o.op.operands.toList, K x = true) (hnc : ∀ c, o.op = .call c → ∃ b, c.callee = .builtin b) {rec : Rec} (h : (compOp P o).f rec s = some s') : Fin P ρ s w ev o s' := by
  have hv : ∀ x ∈ o.op.operands.toList, VR ρ ((fetch x).f s.tm) (ev x) := fun x hx => hev x (hK x hx)
  unfold compOp at h
  cases ho : o.op <;> rw [ho] at h hv hK <;> dsimp only at h <;> first | (cases h; done) | skip
  case move x => exact move_sound hW (.inl ho) (hv x (by simp [Op.operands])) h
  case assign x => exact move_sound hW (.inr ho) (hv x (by simp [Op.operands])) h
  case pick cx x y =>
    obtain ⟨h1, h2⟩ := ifB_some.1 h
    exact pick_sound hW ho (hv cx (by simp [Op.operands])) (hv x (by simp [Op.operands])) (hv y (by simp [Op.operands])) h1 h2
  case alloc e =>
    cases hz : zero P e with
    | none => rw [hz] at h; cases h
    | some z =>
      rw [hz] at h
      exact alloc_sound hW ho hz h
  case box e x => exact boxOp_sound hW ho (hv x (by simp [Op.operands])) h
  case build t ps => exact build_sound hW hev ho (fun p hp => hK _ (by simp only [Op.operands, List.toList_toArray]; exact List.mem_map_of_mem hp)) h
  case buildSlice t len ps =>
    cases hd : P.underlying t with
    | none => rw [hd] at h; cases h
    | some d =>
      rw [hd] at h
      cases d <;> first | (cases h; done) | skip
      exact bs_sound hW hev ho hd (fun p hp => hK _ (by simp only [Op.operands, List.toList_toArray]; exact List.mem_map_of_mem hp)) h
  case load t x =>
    obtain ⟨h1, h2⟩ := ifB_some.1 h
    exact load_sound hW ho (hv x (by simp [Op.operands])) h1 h2
  case store t x y =>
    obtain ⟨h1, h2⟩ := ifB_some.1 h
    exact store_sound hW ho (hv x (by simp [Op.operands])) (hv y (by simp [Op.operands])) h1 h2
  case nilCheck x =>
    obtain ⟨h1, h2⟩ := ifB_some.1 h
    exact nil_sound hW ho (hv x (by simp [Op.operands])) h1 h2
  case binOp op t x y ty => exact bin_sound hW ho (hv x (by simp [Op.operands])) (hv y (by simp [Op.operands])) h
  case unOp op t x => exact un_sound hW ho (hv x (by simp [Op.operands])) h
  case convert t1 t2 x => exact cv_sound hW ho (hv x (by simp [Op.operands])) h
  case makeInterface t x =>
    cases hd : P.underlying t with
    | none => rw [hd] at h; cases h
    | some d =>
      rw [hd] at h
      have hi : ∀ ms, d ≠ .interface ms := fun ms e => by rw [e] at h; cases h
      refine mkI_sound hW ho hd hi (hv x (by simp [Op.operands])) ?_
      cases d <;> first | exact h | cases h
  case makeFunc fn x y =>
    cases fn <;> first | (cases h; done) | skip
    refine mkF_sound hW hev ho (List.all_eq_true.2 fun z hz => hK z ?_) (List.all_eq_true.2 fun z hz => hK z ?_) h
    · simp only [Op.operands, Array.toList_append]; exact List.mem_append_left _ hz
    · simp only [Op.operands, Array.toList_append]; exact List.mem_append_right _ hz
  case makeMap t r =>
    cases r with
    | none => exact mkM_sound hW ho (fun x q => by cases q) h
    | some x =>
      dsimp only at h
      cases hd : P.underlying t with
      | none => rw [hd] at h; cases h
      | some d =>
        rw [hd] at h
        cases d <;> first | (cases h; done) | skip
        obtain ⟨h1, h2⟩ := ifB_some.1 h
        refine mkM_sound hW ho (fun y q => ?_) h2
        injection q with q; subst q
        obtain ⟨k, n, _, _, e⟩ := (hv x (by simp [Op.operands])).asInt h1
        exact ⟨⟨_, _, hd⟩, k, _, e⟩
  case makeSlice t l cx =>
    cases hd : P.underlying t with
    | none => rw [hd] at h; cases h
    | some d =>
      rw [hd] at h
      cases d <;> first | (cases h; done) | skip
      rename_i e
      dsimp only at h
      unfold msC at h
      cases hsz : sizeOf P e with
      | none => rw [hsz] at h; cases h
      | some z =>
        cases z with
        | zero => rw [hsz] at h; cases h
        | succ n =>
          cases hk : bytesOf P e with
          | none => rw [hsz, hk] at h; cases h
          | some k =>
            cases hz : zero P e with
            | none => rw [hsz, hk, hz] at h; cases h
            | some zv =>
              cases hzc : zv.cells with
              | none => rw [hsz, hk, hz] at h; dsimp only [Option.bind] at h; rw [hzc] at h; cases h
              | some zc =>
                rw [hsz, hk, hz] at h; dsimp only [Option.bind] at h; rw [hzc] at h
                dsimp only at h
                cases hck : (Nat.blt k 65536 && Nat.beq zc.length (n + 1)) with
                | false => rw [hck] at h; cases h
                | true =>
                  rw [hck] at h
                  rw [Bool.and_eq_true, blt_d, decide_eq_true_eq, beq_t] at hck
                  exact ms_sound hW ho hd hsz hk hck.1 hz hzc hck.2 (hv l (by simp [Op.operands])) (hv cx (by simp [Op.operands])) h
  case slice t x lo hi mx =>
    cases mx with
    | some m => cases h
    | none =>
      refine sl_sound hW hev ho (hv x (by simp [Op.operands])) (oOk_of fun y q => hK y ?_) (oOk_of fun y q => hK y ?_) h
      · subst q; simp [Op.operands]
      · subst q; simp [Op.operands]
  case fieldAddr t x f =>
    cases hd : P.underlying t with
    | none => rw [hd] at h; cases h
    | some d =>
      rw [hd] at h
      cases d <;> first | (cases h; done) | skip
      rename_i fs
      dsimp only at h
      cases hf : fs[f]? with
      | none => rw [hf] at h; cases h
      | some fd =>
        rw [hf] at h
        dsimp only at h
        cases hz : sizeOf P fd.type with
        | none => rw [hz] at h; cases h
        | some z =>
          cases z with
          | zero => rw [hz] at h; cases h
          | succ z =>
            rw [hz] at h
            obtain ⟨h1, h2⟩ := ifB_some.1 h
            exact fieldAddr_sound hW ho hd hf hz (hv x (by simp [Op.operands])) h1 h2
  case field t x f =>
    cases hd : P.underlying t with
    | none => rw [hd] at h; cases h
    | some d =>
      rw [hd] at h
      cases d <;> first | (cases h; done) | skip
      rename_i fs
      dsimp only at h
      cases hf : fs[f]? with
      | none => rw [hf] at h; cases h
      | some fd =>
        rw [hf] at h
        obtain ⟨h1, h2⟩ := ifB_some.1 h
        exact field_sound hW ho hd hf (hv x (by simp [Op.operands])) h1 h2
  case indexAddr t x i =>
    cases hd : P.underlying t with
    | none => rw [hd] at h; cases h
    | some d =>
      rw [hd] at h
      cases d <;> first | (cases h; done) | skip
      case array n e =>
        dsimp only at h
        cases hz : sizeOf P e with
        | none => rw [hz] at h; cases h
        | some z =>
          rw [hz] at h
          obtain ⟨h1, h2⟩ := ifB_some.1 h
          rw [Bool.and_eq_true, Bool.and_eq_true, Bool.and_eq_true, blt_d, decide_eq_true_eq, blt_d, decide_eq_true_eq] at h1
          exact indexAddr_sound hW ho (hv x (by simp [Op.operands])) (hv i (by simp [Op.operands])) h1.1.1.2 hz h1.1.2 h1.2 (.inl ⟨hd, h1.1.1.1⟩) h2
      case slice e =>
        dsimp only at h
        cases hz : sizeOf P e with
        | none => rw [hz] at h; cases h
        | some z =>
          rw [hz] at h
          obtain ⟨h1, h2⟩ := ifB_some.1 h
          rw [Bool.and_eq_true, Bool.and_eq_true, blt_d, decide_eq_true_eq] at h1
          have hx := hv x (by simp [Op.operands])
          obtain ⟨_, _, n, _, _, e1, _, hn, _⟩ := hx.asSl h1.1.1
          exact indexAddr_sound hW ho hx (hv i (by simp [Op.operands])) h1.1.2 hz h1.2 (by rw [e1]; exact hn) (.inr ⟨hd, h1.1.1, rfl⟩) h2
  case index t x i =>
    cases hd : P.underlying t with
    | none => rw [hd] at h; cases h
    | some d =>
      rw [hd] at h
      cases d <;> first | (cases h; done) | skip
      case array n e =>
        dsimp only at h
        cases hz : sizeOf P e with
        | none => rw [hz] at h; cases h
        | some z =>
          rw [hz] at h
          obtain ⟨h1, h2⟩ := ifB_some.1 h
          rw [Bool.and_eq_true, Bool.and_eq_true, Bool.and_eq_true, blt_d, decide_eq_true_eq, blt_d, decide_eq_true_eq] at h1
          exact index_sound hW ho hd (hv x (by simp [Op.operands])) (hv i (by simp [Op.operands])) h1.1.1.1 h1.1.1.2 hz h1.1.2 h1.2 h2
      case string =>
        obtain ⟨h1, h2⟩ := ifB_some.1 h
        rw [Bool.and_eq_true, Bool.and_eq_true, blt_d, decide_eq_true_eq] at h1
        exact indexS_sound hW ho hd (hv x (by simp [Op.operands])) (hv i (by simp [Op.operands])) h1.1.1 h1.1.2 h1.2 h2
  case lookup t x k ok => exact look_sound hW ho (hv x (by simp [Op.operands])) (hv k (by simp [Op.operands])) h
  case mapUpdate t m k x => exact upd_sound hW ho (hv m (by simp [Op.operands])) (hv k (by simp [Op.operands])) (hv x (by simp [Op.operands])) h
  case mapEntry t m k => exact ent_sound hW ho (hv m (by simp [Op.operands])) (hv k (by simp [Op.operands])) h
  case entryStore t m k x => exact es_sound hW ho (hv m (by simp [Op.operands])) (hv k (by simp [Op.operands])) (hv x (by simp [Op.operands])) h
  case range t x =>
    cases hd : P.underlying t with
    | none => rw [hd] at h; cases h
    | some d =>
      rw [hd] at h
      cases d <;> first | (cases h; done) | skip
      exact rg_sound hW ho hd (hv x (by simp [Op.operands])) h
  case next it isS =>
    cases isS with
    | true => cases h
    | false => exact nx_sound hW ho (hv it (by simp [Op.operands])) h
  case extract t i =>
    obtain ⟨h1, h2⟩ := ifB_some.1 h
    exact extract_sound hW ho (hv t (by simp [Op.operands])) h1 h2
  case typeAssert x xt t ok =>
    cases hd : P.underlying t with
    | none => rw [hd] at h; cases h
    | some d =>
      rw [hd] at h
      have hi : ∀ ms, d ≠ .interface ms := fun ms e => by rw [e] at h; cases h
      have h' : (bif ok then failOp else (⟨fun _ s => (fun v : AV => ifB (v.is 11 && Nat.beq v.x t) (match v.l with | [u] => (fin o.dst).f s u | _ => none)) ((fetch x).f s.tm)⟩ : Fn1 (Rec → St → R1))).f rec s = some s' := by
        cases d <;> first | exact h | cases h
      cases ok with
      | true => cases h'
      | false =>
        obtain ⟨h1, h2⟩ := ifB_some.1 h'
        cases hl : ((fetch x).f s.tm).l with
        | nil => rw [hl] at h2; cases h2
        | cons u l =>
          cases l with
          | cons => rw [hl] at h2; cases h2
          | nil =>
            rw [hl] at h2
            exact ta_sound hW ho hd hi (hv x (by simp [Op.operands])) h1 hl h2
  case call c =>
    obtain ⟨b, hb⟩ := hnc c ho
    unfold callC at h
    rw [hb] at h
    exact blt_sound hW hev ho hb (fun x hx => hK x (by simp only [Op.operands, Call.operands, Array.toList_append]; exact List.mem_append_right _ hx)) h
end
end Go.Proofs.YtoffclpjhikjkaaGreat.Ev
namespace Go.Proofs.YtoffclpjhikjkaaGreat.Ev
open Go
section
variable {P : Program} {rec : Rec} {nt : Nat} {rd : Option Nat}
theorem fin_up {ρ : Ren} {s s' : St} {w : World} {a : Act} {o : Oper} (hF : Fin P ρ s w a.eval o s') (hd : ∀ c, o.op ≠ .defer c) {next : Act → World → Prop} {Q : Exit → Act → World → Prop}
    (hN : ∀ (x : AV) (v : AW) (σ : Ren) (y : Value) (w' : World), s' = ⟨(putK o.dst).f s.tm x, s.ds, v, s.rnd, s.df⟩ → VR σ x y → WR P σ v w' → Stp ρ s.w w σ v w' → (lookK o.op = true → (v = s.w ∧ w' = w ∧ σ = ρ) ∨ s.w.nx < v.nx) → next (a.put o.dst y) w') :
    o.uponIn (FW rd) 0 P a next Q ((o.semAt rd a.eval).run P w) := by
  obtain ⟨x, v, σ, y, w', e1, e2, e3, e4, e5, e6⟩ := hF
  rw [Oper.semAt_eq rd _ o hd]
  have := hN x v σ y w' e1 e3 e4 e5 e6
  rcases e2 with e2 | ⟨e2, rfl⟩
  · rw [e2, Oper.uponIn_value]; exact this
  · rw [e2, Oper.uponIn_skip]; exact this
theorem callR_up {ρ : Ren} {o : Oper} {a : Act} {w : World} {g : FuncId} {xs : Array Value} {aw aw' : AW} {v : AV} (h : CallR P g xs ρ aw w v aw') {next : Act → World → Prop} {Q : Exit → Act → World → Prop}
    (hN : ∀ σ y w', VR σ v y → WR P σ aw' w' → Stp ρ aw w σ aw' w' → next (a.put o.dst y) w') : o.uponIn (FW rd) 0 P a next Q ((callFunc g xs).run P w) := by
  rcases h with ⟨_, h1, h2⟩ | ⟨_, σ, y, w', h1, h2, h3, h4⟩
  · rw [h1, Oper.uponIn_enter]
    exact ⟨fun q => (by cases q), h2 _ fun σ y w' k1 k2 k3 => hN σ y w' k1 k2 k3⟩
  · rw [h1, Oper.uponIn_value]
    exact hN σ y w' h2 h3 h4
theorem opd_of {o : Oper} (h : opOk nt o = true) : ∀ x ∈ o.op.operands.toList, opd nt o x = true := fun x hx => by
  unfold opOk at h
  rw [Bool.and_eq_true, List.all_eq_true] at h
  unfold opd
  rw [h.2 x hx, Bool.true_and]
  cases x with
  | tmp t => exact List.any_eq_true.2 ⟨_, hx, beq_t.2 rfl⟩
  | _ => rfl
theorem not_defer {o : Oper} {s s' : St} (h : (compOp P o).f rec s = some s') : ∀ c, o.op ≠ .defer c := fun c e => by
  unfold compOp at h; rw [e] at h; cases h
theorem op_sound (hr : RecS P rec) (nt : Nat) (o : Oper) : OpS P rec nt o := fun ρ rd s s' a w h hW hE next Q hN => by
  obtain ⟨hok, hc⟩ := opC_ok h
  have hK := opd_of hok
  by_cases hcall : ∃ c f, o.op = .call c ∧ c.callee = .value f
  · obtain ⟨c, f, ho, hf⟩ := hcall
    have hd := not_defer hc
    rw [Oper.semAt_eq rd _ o hd]
    have hl : lookK o.op = false := by
      rw [ho]; show (match c.callee with | .builtin b => (match b with | .len | .min | .max | .cap | .complex | .real | .imag => true | _ => false) | _ => false) = false; rw [hf]
    have hops : ∀ x ∈ o.op.operands.toList, x = f ∨ x ∈ c.args.toList := fun x hx => by
      rw [ho] at hx
      simp only [Op.operands, Call.operands, hf, Array.toList_append, List.mem_append] at hx
      rcases hx with q | q
      · left; simpa using q
      · exact .inr q
    have hf1 : f ∈ o.op.operands.toList := by rw [ho]; simp [Op.operands, Call.operands, hf]
    have hargs : ∀ x ∈ c.args.toList, x ∈ o.op.operands.toList := fun x hx => by
      rw [ho]; simp only [Op.operands, Call.operands, Array.toList_append]; exact List.mem_append_right _ hx
    have hav : VRs ρ ((args c.args.toList).f s.tm) (c.args.map a.eval).toList := by
      rw [Array.toList_map]
      exact args_vr hE _ (List.all_eq_true.2 fun x hx => hK x (hargs x hx))
    have hfv := hE f (hK f hf1)
    unfold compOp at hc
    rw [ho] at hc
    have hc' : (callC P c o.dst).f rec s = some s' := hc
    unfold callC at hc'
    rw [hf] at hc'
    have fin : ∀ {fv : AV} {g : FuncId} {xs ys : Array Value} {fa fb : List AV}, a.eval f = .func (.func g) xs ys → VRs ρ fa xs.toList → VRs ρ fb ys.toList → (finW o.dst).f s (rec.call g (fa ++ (args c.args.toList).f s.tm ++ fb) false s.w) = some s' → o.uponIn (FW rd) 0 P a next Q ((execOp a.eval o).run P w) := fun {fv g xs ys fa fb} e1 e2 e3 e4 => by
      obtain ⟨v, aw', k1, k2⟩ := seqP_some.1 (show seqP _ (fun x w => some (⟨(putK o.dst).f s.tm x, s.ds, w, s.rnd, s.df⟩ : St)) = some s' from e4)
      injection k2 with k2
      have he : execOp a.eval o = (Deferred.ofValue (a.eval f) (c.args.map a.eval) >>= fun d => invoke d.target d.args) := by
        unfold execOp; rw [ho]; dsimp only; unfold resolve; rw [hf]
      rw [he, e1]
      show o.uponIn (FW rd) 0 P a next Q ((callFunc g (xs ++ c.args.map a.eval ++ ys)).run P w)
      have hv : VRs ρ (fa ++ (args c.args.toList).f s.tm ++ fb) (xs ++ c.args.map a.eval ++ ys).toList := by
        rw [Array.toList_append, Array.toList_append]
        exact (e2.append hav).append e3
      exact callR_up (hr.call g _ s.w v aw' ρ _ w k1 hv hW) fun σ y w' m1 m2 m3 => hN v aw' σ y w' k2.symm m1 m2 m3 fun q => by rw [hl] at q; cases q
    have dyn : (finW o.dst).f s (callV rec ((fetch f).f s.tm) ((args c.args.toList).f s.tm) s.w) = some s' → o.uponIn (FW rd) 0 P a next Q ((execOp a.eval o).run P w) := fun hq => by
      generalize ef : (fetch f).f s.tm = fv at hq hfv
      unfold callV at hq
      cases h8 : fv.is 8 with
      | true =>
        rw [h8] at hq
        obtain ⟨g, fa, fb, xs, ys, e1, e2, e3, e4⟩ := hfv.asFn h8
        rw [e1] at hq
        simp only [cond_true, seqN_eq] at hq
        exact fin (fv := fv) e2 e3 e4 hq
      | false =>
        rw [h8] at hq
        simp only [cond_false] at hq
        obtain ⟨v, aw', k1, k2⟩ := seqP_some.1 (show seqP _ (fun x w => some (⟨(putK o.dst).f s.tm x, s.ds, w, s.rnd, s.df⟩ : St)) = some s' from hq)
        injection k2 with k2
        obtain ⟨h7, k1⟩ := ifB_some.1 k1
        obtain ⟨l, t, e1, e2, e3⟩ := hfv.asYield h7
        rw [e1] at k1
        obtain ⟨r, m1, m2, m3⟩ := runR_sound hr k1 e2 hav hW
        have he : execOp a.eval o = (Deferred.ofValue (a.eval f) (c.args.map a.eval) >>= fun d => invoke d.target d.args) := by
          unfold execOp; rw [ho]; dsimp only; unfold resolve; rw [hf]
        rw [he, e3]
        show o.uponIn (FW rd) 0 P a next Q ((Instr.yield t.blk (#[] ++ c.args.map a.eval)).run P w)
        rw [Array.empty_append, run_yield m1 m2, Oper.uponIn_round]
        exact ⟨fun q => (by cases q), m3 rd _ fun σ y w' n1 n2 n3 => hN v aw' σ y w' k2.symm n1 n2 n3 fun q => by rw [hl] at q; cases q⟩
    cases f with
    | func g => exact fin (fv := .undef) (g := g) (xs := #[]) (ys := #[]) (fa := []) (fb := []) rfl .nil .nil (by rw [List.nil_append, List.append_nil]; exact hc')
    | tmp t => exact dyn hc'
    | const v => exact dyn hc'
    | global g => exact dyn hc'
  · refine fin_up (op_fin hW hE hK (fun c ho => ?_) hc) (not_defer hc) hN
    cases hq : c.callee with
    | builtin b => exact ⟨b, rfl⟩
    | value f => exact absurd ⟨c, f, ho, hq⟩ hcall
    | invoke r m =>
      unfold compOp at hc
      rw [ho] at hc
      have hc' : (callC P c o.dst).f rec s = some s' := hc
      unfold callC at hc'
      rw [hq] at hc'; cases hc'
/-- allocations -/
theorem al_sound (rec : Rec) (nt : Nat) (o : Oper) (hq : quiet o.op = true) (hl : lookK o.op = false) (s s' : St) (h : (opC P nt o).f rec s = some s') : AlOf P (opd nt o) o s s' := by
  obtain ⟨hok, hc⟩ := opC_ok h
  have hK := opd_of hok
  generalize opd nt o = K at hK
  unfold compOp at hc
  cases ho : o.op <;> rw [ho] at hc hK hq hl <;> dsimp only at hc <;> first | (cases hq; done) | (cases hl; done) | skip
  case call c =>
    have : quiet (Op.call c) = false := hl
    rw [this] at hq; cases hq
  case alloc e =>
    cases hz : zero P e with
    | none => rw [hz] at hc; cases hc
    | some z =>
      rw [hz] at hc
      exact alloc_al ho hz hc
  case box e x => exact boxOp_al ho (hK x (by simp [Op.operands])) hc
  case buildSlice t len ps =>
    cases hd : P.underlying t with
    | none => rw [hd] at hc; cases hc
    | some d =>
      rw [hd] at hc
      cases d <;> first | (cases hc; done) | skip
      exact bs_al ho hd (fun p hp => hK _ (by simp only [Op.operands, List.toList_toArray]; exact List.mem_map_of_mem hp)) hc
  case makeMap t r =>
    cases r with
    | none => exact mkM_al ho (fun _ _ _ x q => by cases q) hc
    | some x =>
      dsimp only at hc
      cases hd : P.underlying t with
      | none => rw [hd] at hc; cases hc
      | some d =>
        rw [hd] at hc
        cases d <;> first | (cases hc; done) | skip
        obtain ⟨h1, h2⟩ := ifB_some.1 hc
        refine mkM_al ho (fun ρ ev hE y q => ?_) h2
        injection q with q; subst q
        obtain ⟨k, n, _, _, e⟩ := (hE x (hK x (by simp [Op.operands]))).asInt h1
        exact ⟨⟨_, _, hd⟩, k, _, e⟩
  case makeSlice t l cx =>
    cases hd : P.underlying t with
    | none => rw [hd] at hc; cases hc
    | some d =>
      rw [hd] at hc
      cases d <;> first | (cases hc; done) | skip
      rename_i e
      dsimp only at hc
      unfold msC at hc
      cases hsz : sizeOf P e with
      | none => rw [hsz] at hc; cases hc
      | some z =>
        cases z with
        | zero => rw [hsz] at hc; cases hc
        | succ n =>
          cases hk : bytesOf P e with
          | none => rw [hsz, hk] at hc; cases hc
          | some k =>
            cases hz : zero P e with
            | none => rw [hsz, hk, hz] at hc; cases hc
            | some zv =>
              cases hzc : zv.cells with
              | none => rw [hsz, hk, hz] at hc; dsimp only [Option.bind] at hc; rw [hzc] at hc; cases hc
              | some zc =>
                rw [hsz, hk, hz] at hc; dsimp only [Option.bind] at hc; rw [hzc] at hc
                dsimp only at hc
                cases hck : (Nat.blt k 65536 && Nat.beq zc.length (n + 1)) with
                | false => rw [hck] at hc; cases hc
                | true =>
                  rw [hck] at hc
                  rw [Bool.and_eq_true, blt_d, decide_eq_true_eq, beq_t] at hck
                  exact ms_al ho hd hsz hk hck.1 hz hzc hck.2 (hK l (by simp [Op.operands])) (hK cx (by simp [Op.operands])) hc
/-- WHATEVER THE EVALUATOR RUNS, THE MACHINE DOES. -/
theorem run_sound (hm : P.follows .mixedOrders = true) {X : FuncId → Option Ext} (hX : ExtOk P X) (n : Nat) : RecS P (recN P X n) :=
  rec_sound hm hX (fun _ hr => op_sound hr) (fun rec => al_sound rec) n
end
end Go.Proofs.YtoffclpjhikjkaaGreat.Ev
namespace Go.Proofs.YtoffclpjhikjkaaGreat.Ev
open Go
section
variable {P : Program}
theorem callFunc_ext {g : FuncId} {fn : Func} {f : Array Value → Sem Value} {xs : Array Value} {w w' : World} {y : Value} (hf : P.funcs[g]? = some fn) (hn : (fn.name == "runtime.NumGoroutine") = false) (hb : fn.body = none) (h1 : Extern.findNext fn = none) (h2 : Extern.find fn = some f) (hr : (f xs).run P w = .ok y w') : (callFunc g xs).run P w = .ok (.value y) w' := by
  unfold callFunc
  rw [run_bind]
  show Sem.run P (match P.funcs[g]? with | none => _ | some fn => _) w = _
  rw [hf]; dsimp only
  rw [if_neg (by rw [hn]; decide), if_pos (by rw [hb]; rfl)]
  rw [run_bind]
  have hm : (mark (Mark.extern g)).run P w = .ok () w := rfl
  rw [hm]; dsimp only
  rw [h1]; dsimp only
  rw [h2]; dsimp only
  rw [run_bind, hr]; rfl
/-- what is told of a function that has no body -/
structure ExtIs (P : Program) (g : FuncId) (f : Array Value → Sem Value) : Prop where
  is : ∃ fn, P.funcs[g]? = some fn ∧ (fn.name == "runtime.NumGoroutine") = false ∧ fn.body = none ∧ Extern.findNext fn = none ∧ Extern.find fn = some f
theorem ExtIs.hasB {g : FuncId} {f : Array Value → Sem Value} (h : ExtIs P g f) : hasB P g = false := by
  obtain ⟨fn, h1, _, h2, _⟩ := h.is
  unfold Ev.hasB; rw [h1]; dsimp only; rw [h2]; rfl
theorem ExtIs.run {g : FuncId} {f : Array Value → Sem Value} (h : ExtIs P g f) {xs : Array Value} {w w' : World} {y : Value} (hr : (f xs).run P w = .ok y w') : (callFunc g xs).run P w = .ok (.value y) w' := by
  obtain ⟨fn, h1, h2, h3, h4, h5⟩ := h.is
  exact callFunc_ext h1 h2 h3 h4 h5 hr
theorem noEscape_ok {g : FuncId} (h : ExtIs P g Extern.AbiNoEscape.same) {l : List AV} {aw aw' : AW} {v : AV} {ρ : Ren} {xs : Array Value} {w : World} (he : (extC .noEscape).f l aw = some (v, aw')) (hv : VRs ρ l xs.toList) (hW : WR P ρ aw w) : CallR P g xs ρ aw w v aw' := by
  cases l with
  | nil => cases he
  | cons x l =>
    cases l with
    | cons => cases he
    | nil =>
      injection he with he; injection he with e1 e2
      subst e1; subst e2
      cases hx : xs.toList with
      | nil => rw [hx] at hv; cases hv
      | cons y ys =>
        rw [hx] at hv
        obtain ⟨h1, h2⟩ := hv.one1
        cases h2
        have hxs : xs = #[y] := Array.toList_inj.1 hx
        subst hxs
        exact .inr ⟨h.hasB, ρ, y, w, h.run rfl, h1, hW, Stp.refl _ _ _⟩
theorem makeNoZero_ok {g : FuncId} {ps : Array TypeId} {t e : TypeId} (h : ExtIs P g (Extern.BytealgMakeNoZero.makeNoZero ps #[t])) (ht : P.underlying t = some (.slice e)) (hs : sizeOf P e = some 1) {l : List AV} {aw aw' : AW} {v : AV} {ρ : Ren} {xs : Array Value} {w : World} (he : (extC (.makeNoZero e)).f l aw = some (v, aw')) (hv : VRs ρ l xs.toList) (hW : WR P ρ aw w) : CallR P g xs ρ aw w v aw' := by
  cases l with
  | nil => cases he
  | cons x l =>
    cases l with
    | cons => cases he
    | nil =>
      obtain ⟨hc, he'⟩ := ifB_some.1 he
      rw [Bool.and_eq_true, Bool.and_eq_true, beq_t, blt_d, decide_eq_true_eq] at hc
      obtain ⟨b, aw1, k1, k2⟩ := seqP_some.1 he'
      injection k2 with k2; injection k2 with k2 k3
      cases hx : xs.toList with
      | nil => rw [hx] at hv; cases hv
      | cons y ys =>
        rw [hx] at hv
        obtain ⟨h1, h2⟩ := hv.one1
        cases h2
        have hxs : xs = #[y] := Array.toList_inj.1 hx
        subst hxs
        obtain ⟨k, n, e1, _, e3⟩ := h1.asInt hc.1.1
        have hk : k = .i64 := by
          have := hc.1.2
          rw [e1] at this
          exact kc_inj (show kc k = kc .i64 from this)
        subst hk
        have hn : n < 1000000000 := by have := hc.2; rw [e1] at this; exact this
        have e4 : y = .int .i64 (n : Int) := by rw [e3, toInt_of_lt (.inr (Nat.lt_trans hn (by decide)))]
        obtain ⟨cs, r1, r2, _⟩ := Lib.run_makeNoZero_cap (P := P) w ps t e ht n (by omega)
        obtain ⟨m1, m2, m3, m4⟩ := row_add (st := 1) (C := cs) (w' := w.drew.drew.alloc (.cells cs e)) hW k1 (fz := (0, 0)) rfl rfl rfl rfl rfl (fun i x hx => by simp at hx) (fun q => by cases q) (fun _ => ⟨hs, by decide, Nat.zero_le _⟩)
        subst m1
        rw [← k3, ← k2]
        refine .inr ⟨h.hasB, _, _, _, h.run (by rw [e4]; exact r1), ?_, m3, m4⟩
        rw [e1]
        exact .slL _ 0 n 0 ⟨w.heap.size, 0, some (1, cs.size)⟩ 1 cs.size cs.size (Ren.add_same _ _ _) rfl r2 (by omega) (by unfold big; omega)
/-! ### The top -/
theorem wr_empty {nx : Nat} (hn : nx ≤ big) (w : World) : WR P (fun _ => none) ⟨nx, .e, .e⟩ w :=
  ⟨fun b B t h => (by cases h), fun b B h => (by cases h), fun b t h => (by cases h), hn, fun b cs n e lo gp sh f h q => (by cases q), fun g l m cs n e lo gp sh f h q => (by cases q), fun g l q => (by cases q), fun b cs n e lo gp sh f h q => (by cases q), fun b cs n e lo gp sh f h t b' cs' n' e' lo' gp' sh' f' h' t' q => (by cases q), fun b o b' o' t t' q => (by cases q)⟩
/-- the world has but grown -/
structure Grew (w w' : World) : Prop where
  size : w.heap.size ≤ w'.heap.size
  keep : ∀ k, k < w.heap.size → w'.heap[k]? = w.heap[k]?
  os : w'.os = w.os
  tape : w'.tape = w.tape
  output : w'.output = w.output
theorem calls_of_run (hm : P.follows .mixedOrders = true) {X : FuncId → Option Ext} (hX : ExtOk P X) {n nx : Nat} (hn : nx ≤ big) {g : FuncId} {l : List AV} {v : AV} {aw' : AW} (h : (recN P X n).call g l false ⟨nx, .e, .e⟩ = some (v, aw')) (hb : hasB P g = true) {xs : Array Value} (hv : VRs (fun _ => none) l xs.toList) (w : World) {R : Ending → World → Prop}
    (hR : ∀ σ y w', VR σ v y → WR P σ aw' w' → Grew w w' → R (.returned y) w') : Calls P g xs w R := by
  have hc := (run_sound hm hX n).call g l _ v aw' _ xs w h hv (wr_empty hn w)
  obtain ⟨_, h2⟩ := callR_any hc hb
  have := h2 none R fun σ y w' k1 k2 k3 => hR σ y w' k1 k2 ⟨k3.size, fun k hk => k3.keep k hk (fun ⟨b, B, t, q, _⟩ => by cases q), k3.os, k3.tape, k3.output⟩
  exact callsIn_wide.1 this
theorem solid1_ren {σ ρ : Ren} {v : AV} {y : Value} (h : solid1 v = true) (hv : VR σ v y) : VR ρ v y := by
  unfold solid1 at h
  rw [Bool.or_eq_true, Bool.or_eq_true] at h
  rcases h with (h | h) | h
  · obtain ⟨k, n, rfl, h1, rfl⟩ := hv.asInt h; exact .int k n h1
  · obtain ⟨n, u, rfl, h1, rfl⟩ := hv.asStr h; exact .str n u h1
  · obtain ⟨b, rfl, rfl⟩ := hv.asBool h; exact .bool b
theorem solids_ren {σ ρ : Ren} : ∀ {l : List AV} {xs : List Value}, l.all solid1 = true → VRs σ l xs → VRs ρ l xs
  | [], _, _, .nil => .nil
  | _ :: _, _, h, .cons _ _ _ _ a b => by
    rw [List.all_cons, Bool.and_eq_true] at h
    exact .cons _ _ _ _ (solid1_ren h.1 a) (solids_ren h.2 b)
theorem solid_ren {σ ρ : Ren} {v : AV} {y : Value} (h : solid v = true) (hv : VR σ v y) : VR ρ v y := by
  unfold solid at h
  rw [Bool.or_eq_true, Bool.and_eq_true] at h
  rcases h with h | h
  · exact solid1_ren h hv
  · obtain ⟨l, xs, rfl, rfl, h1, h2⟩ := hv.asAgg h.1
    exact .agg _ _ (solids_ren h.2 h1) h2
theorem WR.grow {ρ : Ren} {aw : AW} {w w' : World} (h : WR P ρ aw w) (hg : Grew w w') : WR P ρ aw w' ∧ Stp ρ aw w ρ aw w' :=
  ⟨⟨fun b B t h1 h2 => (h.blk b B t h1 h2).mono (.refl _) (hg.keep _ (h.nxR _ _ h2).2), h.nxB, fun b t k => ⟨(h.nxR b t k).1, Nat.lt_of_lt_of_le (h.nxR b t k).2 hg.size⟩, h.nx, h.grp, h.grM, h.grN, h.pend, h.alias, h.inj⟩,
   ⟨.refl _, Nat.le_refl _, fun _ _ q => ⟨q, rfl⟩, hg.size, hg.os, hg.tape, hg.output, fun k hk _ => hg.keep k hk, fun _ q _ => q⟩⟩
theorem solids2_ren {σ ρ : Ren} : ∀ {l : List AV} {xs : List Value}, l.all solid = true → VRs σ l xs → VRs ρ l xs
  | [], _, _, .nil => .nil
  | _ :: _, _, h, .cons _ _ _ _ a b => by
    rw [List.all_cons, Bool.and_eq_true] at h
    exact .cons _ _ _ _ (solid_ren h.1 a) (solids2_ren h.2 b)
def solidT (v : AV) : Bool := solid v || (v.is 9 && v.l.all solid)
theorem solidT_ren {σ ρ : Ren} {v : AV} {y : Value} (h : solidT v = true) (hv : VR σ v y) : VR ρ v y := by
  unfold solidT at h
  rw [Bool.or_eq_true, Bool.and_eq_true] at h
  rcases h with h | h
  · exact solid_ren h hv
  · obtain ⟨l, xs, rfl, rfl, h1⟩ := hv.asTup h.1
    exact .tup _ _ (solids2_ren h.2 h1)
/-- a row of a table has been run -/
def RowOk (P : Program) (X : FuncId → Option Ext) (g : FuncId) (p : List AV × AV) : Prop := p.1.all solid = true ∧ solidT p.2 = true ∧ ∃ n aw', (recN P X n).call g p.1 false ⟨16, .e, .e⟩ = some (p.2, aw')
theorem table_ok (hm : P.follows .mixedOrders = true) {X : FuncId → Option Ext} (hX : ExtOk P X) {g : FuncId} (hb : hasB P g = true) : ∀ {tb : List (List AV × AV)}, (∀ p ∈ tb, RowOk P X g p) → ∀ {l : List AV} {aw aw' : AW} {v : AV} {ρ : Ren} {xs : Array Value} {w : World}, (extC (.table tb)).f l aw = some (v, aw') → VRs ρ l xs.toList → WR P ρ aw w → CallR P g xs ρ aw w v aw'
  | tb, ht, l, aw, aw', v, ρ, xs, w, he, hv, hW => by
    obtain ⟨u, h1, h2⟩ := seqO_some.1 (show seqO (findT l tb) (fun v => some (v, aw)) = some (v, aw') from he)
    injection h2 with h2; injection h2 with h2 h3
    subst h2; subst h3
    have hrow : RowOk P X g (l, u) := by
      clear he
      induction tb with
      | nil => cases h1
      | cons p tb ih =>
        unfold findT at h1
        cases hq : eqL (aveqN 3) p.1 l with
        | true =>
          rw [hq] at h1
          injection h1 with h1
          have e : p.1 = l := eqL_t (fun x y q => aveqN_t 3 q) hq
          have := ht p (List.mem_cons_self ..)
          rw [← e, ← h1]; exact this
        | false =>
          rw [hq] at h1
          exact ih (fun q hq => ht q (List.mem_cons_of_mem _ hq)) h1
    obtain ⟨s1, s2, n, aw2, hr⟩ := hrow
    have hv0 : VRs (fun _ => none) l xs.toList := solids2_ren s1 hv
    have hc := (run_sound hm hX n).call g l _ u aw2 _ xs w hr hv0 (wr_empty (by decide) w)
    obtain ⟨k1, k2⟩ := callR_any hc hb
    refine .inl ⟨hb, k1, fun R hR => k2 none R fun σ y w' m1 m2 m3 => ?_⟩
    have hg : Grew w w' := ⟨m3.size, fun k hk => m3.keep k hk (fun ⟨b, B, t, q, _⟩ => by cases q), m3.os, m3.tape, m3.output⟩
    obtain ⟨g1, g2⟩ := hW.grow hg
    exact hR ρ y w' (solidT_ren s2 m1) g1 g2
end
end Go.Proofs.YtoffclpjhikjkaaGreat.Ev
namespace Go.Proofs.YtoffclpjhikjkaaGreat.Ev
open Go
def toVs (f : AV → Option Value) : List AV → Option (List Value)
  | [] => some []
  | x :: l => match f x, toVs f l with
    | some y, some ys => some (y :: ys)
    | _, _ => none
/-- the one value that it can be -/
def toV : Nat → AV → Option Value
  | 0, _ => none
  | d + 1, v => bif v.is 1 then (bif Nat.beq (kc (kOf v.x)) v.x then some (.int (kOf v.x) (toInt (kOf v.x) v.y)) else none)
    else bif v.is 2 then some (.string (sb v.x v.y))
    else bif v.is 3 then some (.bool (Nat.beq v.x 1))
    else bif v.is 20 then some (.pointer none)
    else bif v.is 21 then some (.slice none 0 0)
    else bif v.is 10 then (match toVs (toV d) v.l with | some l => some (.agg l.toArray) | none => none)
    else bif v.is 9 then (match toVs (toV d) v.l with | some l => some (.tuple l.toArray) | none => none)
    else none
theorem toVs_eq {f : AV → Option Value} {σ : Ren} (hf : ∀ v y z, f v = some z → VR σ v y → y = z) : ∀ {l : List AV} {xs zs : List Value}, toVs f l = some zs → VRs σ l xs → xs = zs
  | [], _, _, h, .nil => by injection h
  | v :: l, _, zs, h, .cons _ x _ xs a b => by
    unfold toVs at h
    cases h1 : f v with
    | none => rw [h1] at h; cases h
    | some y =>
      cases h2 : toVs f l with
      | none => rw [h1, h2] at h; cases h
      | some ys =>
        rw [h1, h2] at h
        injection h with h
        rw [← h, hf v x y h1 a, toVs_eq hf h2 b]
theorem toV_eq {σ : Ren} : ∀ (d : Nat) (v : AV) (y z : Value), toV d v = some z → VR σ v y → y = z
  | 0, _, _, _, h, _ => by cases h
  | d + 1, v, y, z, h, hv => by
    have ih := toV_eq (σ := σ) d
    unfold toV at h
    cases h1 : v.is 1 with
    | true =>
      rw [h1] at h
      obtain ⟨k, n, rfl, _, rfl⟩ := hv.asInt h1
      simp only [cond_true] at h
      cases hb : Nat.beq (kc (kOf (kc k))) (kc k) with
      | false => rw [hb] at h; cases h
      | true =>
        rw [hb] at h
        injection h with h
        rw [← h, kc_inj (beq_t.1 hb)]
    | false =>
    rw [h1] at h
    simp only [cond_false] at h
    cases h2 : v.is 2 with
    | true =>
      rw [h2] at h
      obtain ⟨n, u, rfl, _, rfl⟩ := hv.asStr h2
      injection h
    | false =>
    rw [h2] at h
    simp only [cond_false] at h
    cases h3 : v.is 3 with
    | true =>
      rw [h3] at h
      obtain ⟨b, rfl, rfl⟩ := hv.asBool h3
      injection h with h
      rw [← h]; cases b <;> rfl
    | false =>
    rw [h3] at h
    simp only [cond_false] at h
    cases h20 : v.is 20 with
    | true =>
      rw [h20] at h
      injection h with h
      rcases hv.asNil (by decide) h20 with ⟨_, hx⟩ | ⟨q, _⟩ | ⟨q, _⟩ | ⟨q, _⟩ | ⟨q, _⟩ | ⟨q, _⟩ <;> first | (exact absurd q (by decide)) | (rw [hx, h])
    | false =>
    rw [h20] at h
    simp only [cond_false] at h
    cases h21 : v.is 21 with
    | true =>
      rw [h21] at h
      injection h with h
      rcases hv.asNil (by decide) h21 with ⟨q, _⟩ | ⟨_, hx⟩ | ⟨q, _⟩ | ⟨q, _⟩ | ⟨q, _⟩ | ⟨q, _⟩ <;> first | (exact absurd q (by decide)) | (rw [hx, h])
    | false =>
    rw [h21] at h
    simp only [cond_false] at h
    cases h10 : v.is 10 with
    | true =>
      rw [h10] at h
      obtain ⟨l, xs, rfl, rfl, hl, _⟩ := hv.asAgg h10
      simp only [cond_true] at h
      cases hq : toVs (toV d) l with
      | none => rw [hq] at h; cases h
      | some zs =>
        rw [hq] at h
        injection h with h
        have := toVs_eq ih hq hl
        rw [← h, ← this]
    | false =>
    rw [h10] at h
    simp only [cond_false] at h
    cases h9 : v.is 9 with
    | true =>
      rw [h9] at h
      obtain ⟨l, xs, rfl, rfl, hl⟩ := hv.asTup h9
      simp only [cond_true] at h
      cases hq : toVs (toV d) l with
      | none => rw [hq] at h; cases h
      | some zs =>
        rw [hq] at h
        injection h with h
        have := toVs_eq ih hq hl
        rw [← h, ← this]
    | false => rw [h9] at h; cases h
theorem resIs_t {v : AV} {r : Option (AV × AW)} (h : resIs v r = true) : ∃ aw, r = some (v, aw) := by
  cases r with
  | none => cases h
  | some p =>
    obtain ⟨u, aw⟩ := p
    have : u = v := aveqN_t 6 h
    exact ⟨aw, by rw [this]⟩
theorem Grew.below {w w' : World} (h : Grew w w') : Go.RowKit.Below w.heap.size w w' := ⟨h.os, h.tape, h.output, h.size, fun k hk => h.keep k hk⟩
/-- a call whose answer is known -/
theorem ev_calls {P : Program} (hm : P.follows .mixedOrders = true) {X : FuncId → Option Ext} (hX : ExtOk P X) {n : Nat} {g : FuncId} {l : List AV} {v : AV} (h : resIs v ((recN P X n).call g l false ⟨16, .e, .e⟩) = true) (hb : hasB P g = true) {xs : Array Value} (hv : VRs (fun _ => none) l xs.toList) {y : Value} (hy : toV 4 v = some y) (w : World) :
    Calls P g xs w fun e w' => e = .returned y ∧ Go.RowKit.Below w.heap.size w w' := by
  obtain ⟨aw, hr⟩ := resIs_t h
  exact calls_of_run hm hX (by decide) hr hb hv w fun σ z w' h1 _ h2 => ⟨by rw [toV_eq 4 v z y hy h1], h2.below⟩
theorem rowOk_of {P : Program} {X : FuncId → Option Ext} {g : FuncId} {p : List AV × AV} {n : Nat} (h1 : (p.1.all solid && solidT p.2) = true) (h2 : resIs p.2 ((recN P X n).call g p.1 false ⟨16, .e, .e⟩) = true) : RowOk P X g p := by
  rw [Bool.and_eq_true] at h1
  obtain ⟨aw, hr⟩ := resIs_t h2
  exact ⟨h1.1, h1.2, n, aw, hr⟩
end Go.Proofs.YtoffclpjhikjkaaGreat.Ev
