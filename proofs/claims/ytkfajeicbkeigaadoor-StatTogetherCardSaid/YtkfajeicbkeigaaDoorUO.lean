/- Plain laws of what names gain together. -/
import Derived.Test.YtkfajeicbkeigaaDoorUH
namespace Go.Proofs.YtkfajeicbkeigaaDoor
open Go.RowKit Go.Maps
theorem sumT_le {L : List Ck} {f g : Plc → Bool} (hp : ∀ c ∈ L, 0 ≤ c.2) (h : ∀ c ∈ L, f c.1 = true → g c.1 = true) (k : Nat) : sumT L f k ≤ sumT L g k := by
  unfold sumT
  have hm : ∀ c ∈ L.take k, 0 ≤ c.2 ∧ (f c.1 = true → g c.1 = true) := fun c hc => ⟨hp c (List.mem_of_mem_take hc), h c (List.mem_of_mem_take hc)⟩
  generalize L.take k = M at hm
  induction M with
  | nil => simp
  | cons x M ih =>
    have h1 := ih (fun c hc => hm c (List.mem_cons_of_mem _ hc))
    obtain ⟨h2, h3⟩ := hm x (List.mem_cons_self ..)
    simp only [List.map_cons, List.sum_cons]
    cases hf : f x.1 with
    | true => rw [if_pos rfl, if_pos (h3 hf)]; omega
    | false => rw [if_neg (by decide)]; split <;> omega
theorem sumT_add {L : List Ck} {f a b d : Plc → Bool} (h : ∀ c ∈ L, (if f c.1 then c.2 else 0) = (if a c.1 then c.2 else 0) + (if b c.1 then c.2 else 0) + (if d c.1 then c.2 else 0)) (k : Nat) : sumT L f k = sumT L a k + sumT L b k + sumT L d k := by
  unfold sumT
  have hm : ∀ c ∈ L.take k, (if f c.1 then c.2 else 0) = (if a c.1 then c.2 else 0) + (if b c.1 then c.2 else 0) + (if d c.1 then c.2 else 0) := fun c hc => h c (List.mem_of_mem_take hc)
  generalize L.take k = M at hm
  induction M with
  | nil => simp
  | cons x M ih =>
    have h1 := ih (fun c hc => hm c (List.mem_cons_of_mem _ hc))
    have h2 := hm x (List.mem_cons_self ..)
    simp only [List.map_cons, List.sum_cons]
    omega
theorem sumT_none {L : List Ck} {f : Plc → Bool} (h : ∀ c ∈ L, f c.1 = false) (k : Nat) : sumT L f k = 0 := by
  unfold sumT
  have hm : ∀ c ∈ L.take k, f c.1 = false := fun c hc => h c (List.mem_of_mem_take hc)
  generalize L.take k = M at hm
  induction M with
  | nil => simp
  | cons x M ih =>
    have h1 := ih (fun c hc => hm c (List.mem_cons_of_mem _ hc))
    simp only [List.map_cons, List.sum_cons, hm x (List.mem_cons_self ..), h1]
    simp
theorem mem_nmF {P : List Pr} {p : Plc} {s : Nm} : s ∈ nmF P p ↔ ∃ x ∈ P, x.2.1 = p ∧ x.1 = s := by
  unfold nmF
  simp only [List.mem_map, List.mem_filter, decide_eq_true_eq]
  exact ⟨fun ⟨x, ⟨h1, h2⟩, h3⟩ => ⟨x, h1, h2, h3⟩, fun ⟨x, h1, h2, h3⟩ => ⟨x, ⟨h1, h2⟩, h3⟩⟩
theorem nmF_some {P : List Pr} {c : Ck} (hc : c ∈ pl P) : ∃ s, s ∈ nmF P c.1 := by
  obtain ⟨x, hx, rfl⟩ := pl_of c hc
  exact ⟨x.1, mem_nmF.2 ⟨x, hx, rfl, rfl⟩⟩
theorem allIn_iff {l ns : List Nm} : allIn l ns = true ↔ ∀ x ∈ l, x ∈ ns := by
  unfold allIn
  rw [List.all_eq_true]
  exact ⟨fun h x hx => of_decide_eq_true (h x hx), fun h x hx => decide_eq_true (h x hx)⟩
theorem pos_of {us : List Us} (h : chk (cnt us) = 0) : ∀ c ∈ pl (prs (cnt us)), 0 ≤ c.2 := fun c hc => by
  obtain ⟨x, hx, rfl⟩ := pl_of c hc
  obtain ⟨u, hu, c', hc2, rfl⟩ := mem_prs.1 hx
  have := (chk_ok h u hu c' hc2).1
  simp only
  omega
/-- all names gain the whole -/
theorem gains_all {us : List Us} (h : chk (cnt us) = 0) : (totF us fun l => allIn l (nmsU (cnt us))) = totF us fun _ => true := by
  rw [totF_yes h, totF_yes h]
  refine sumT_congr (fun c _ => allIn_iff.2 (fun x hx => ?_)) _
  obtain ⟨y, hy, _, rfl⟩ := mem_nmF.1 hx
  obtain ⟨u, hu, c', _, rfl⟩ := mem_prs.1 hy
  exact List.mem_map.2 ⟨u, hu, rfl⟩
/-- more names gain no less -/
theorem gains_more {us : List Us} (h : chk (cnt us) = 0) {a b : List Nm} (hab : ∀ s ∈ a, s ∈ b) : (totF us fun l => allIn l a) ≤ totF us fun l => allIn l b := by
  rw [totF_yes h, totF_yes h]
  exact sumT_le (pos_of h) (fun c _ hc => allIn_iff.2 (fun x hx => hab x (allIn_iff.1 hc x hx))) _
/-- no name gains nothing -/
theorem gains_none {us : List Us} (h : chk (cnt us) = 0) : (totF us fun l => allIn l []) = 0 := by
  rw [totF_yes h]
  refine sumT_none (fun c hc => ?_) _
  obtain ⟨s, hs⟩ := nmF_some hc
  cases ha : allIn (nmF (prs (cnt us)) c.1) [] with
  | false => rfl
  | true => cases allIn_iff.1 ha s hs
theorem cnt_nodup (us : List Us) : (nmsU (cnt us)).Nodup := by
  induction us using snoc_ind with
  | h0 => exact List.nodup_nil
  | h1 l u ih =>
    rw [cnt_snoc]
    split
    · exact ih
    · next hn =>
      unfold nmsU at ih ⊢
      rw [List.map_append, List.map_cons, List.map_nil]
      exact List.nodup_append.2 ⟨ih, (by simp : [u.nm].Nodup), fun a ha b hb => by
        rw [List.mem_singleton] at hb
        subst hb
        exact fun e => hn (e ▸ ha)⟩
theorem at_iff {cs : List Ck} {p : Plc} : 0 ≤ atI cs p ↔ p ∈ cs.map (·.1) := by
  refine ⟨fun h => ?_, fun h => ?_⟩
  · refine Classical.byContradiction fun hn => ?_
    have := atI_no hn
    omega
  · obtain ⟨i, c, h1, _, _⟩ := atI_yes h
    omega
/-- whom a place's names name, by the use's own chunks -/
theorem names_at {vs : List Us} (hd : (nmsU vs).Nodup) {k : Nat} {u : Us} (hu : vs[k]? = some u) {p : Plc} : u.nm ∈ nmF (prs vs) p ↔ 0 ≤ atI u.cs p := by
  rw [at_iff, mem_nmF]
  refine ⟨fun ⟨x, hx, h1, h2⟩ => ?_, fun h => ?_⟩
  · obtain ⟨v, hv, c, hc, rfl⟩ := mem_prs.1 hx
    obtain ⟨j, hj⟩ := List.getElem?_of_mem hv
    have e1 : (nmsU vs)[k]? = some u.nm := by unfold nmsU; rw [List.getElem?_map, hu]; rfl
    have e2 : (nmsU vs)[j]? = some u.nm := by unfold nmsU; rw [List.getElem?_map, hj]; exact congrArg some h2
    have hk : k < (nmsU vs).length := (List.getElem?_eq_some_iff.1 e1).1
    have : k = j := (List.getElem?_inj hk hd).1 (e1.trans e2.symm)
    subst this
    rw [hu] at hj
    cases hj
    exact List.mem_map.2 ⟨c, hc, h1⟩
  · obtain ⟨c, hc, rfl⟩ := List.mem_map.1 h
    exact ⟨(u.nm, c), mem_prs.2 ⟨u, List.mem_of_getElem? hu, c, hc, rfl⟩, rfl, rfl⟩
/-- what both name, and nobody else -/
def aloneB (vs : List Us) (u v : Us) (p : Plc) : Bool := decide (0 ≤ atI u.cs p) && decide (0 ≤ atI v.cs p) && byB vs p [u.nm, v.nm]
def aloneF (vs : List Us) (u v : Us) (k : Nat) : Int := sumT (pl (prs vs)) (aloneB vs u v) k
theorem gains_two {us : List Us} (h : chk (cnt us) = 0) {u v : Us} (hu : (cnt us)[0]? = some u) (hv : (cnt us)[1]? = some v) :
    (totF us fun l => allIn l [u.nm, v.nm]) = (totF us fun l => allIn l [u.nm]) + (totF us fun l => allIn l [v.nm]) + aloneF (cnt us) u v (pl (prs (cnt us))).length := by
  have hd := cnt_nodup us
  have hne : u.nm ≠ v.nm := fun e => by
    have e1 : (nmsU (cnt us))[0]? = some u.nm := by unfold nmsU; rw [List.getElem?_map, hu]; rfl
    have e2 : (nmsU (cnt us))[1]? = some u.nm := by unfold nmsU; rw [List.getElem?_map, hv]; exact congrArg some e.symm
    have := (List.getElem?_inj (List.getElem?_eq_some_iff.1 e1).1 hd).1 (e1.trans e2.symm)
    omega
  rw [totF_yes h, totF_yes h, totF_yes h]
  unfold aloneF
  refine sumT_add (fun c hc => ?_) _
  have hs := nmF_some hc
  have hby := byB_eq (us := cnt us) (p := c.1) (ns := [u.nm, v.nm]) (List.mem_map.2 ⟨c, hc, rfl⟩)
  have ha := names_at hd hu (p := c.1)
  have hb := names_at hd hv (p := c.1)
  unfold aloneB
  rw [hby]
  generalize nmF (prs (cnt us)) c.1 = N at *
  rw [show decide (0 ≤ atI u.cs c.1) = decide (u.nm ∈ N) from decide_eq_decide.2 ha.symm, show decide (0 ≤ atI v.cs c.1) = decide (v.nm ∈ N) from decide_eq_decide.2 hb.symm]
  obtain ⟨s, hs⟩ := hs
  have one : ∀ x, allIn N [x] = true ↔ ∀ y ∈ N, y = x := fun x => allIn_iff.trans ⟨fun h y hy => List.mem_singleton.1 (h y hy), fun h y hy => List.mem_singleton.2 (h y hy)⟩
  have two : allIn N [u.nm, v.nm] = true ↔ ∀ y ∈ N, y = u.nm ∨ y = v.nm := allIn_iff.trans ⟨fun h y hy => by simpa using h y hy, fun h y hy => by simpa using h y hy⟩
  by_cases h2 : ∀ y ∈ N, y = u.nm ∨ y = v.nm
  · rw [two.2 h2, Bool.and_true]
    by_cases hun : u.nm ∈ N
    · have fv : allIn N [v.nm] = false := Bool.eq_false_iff.2 (fun e => hne ((one _).1 e _ hun))
      by_cases hvn : v.nm ∈ N
      · have fu : allIn N [u.nm] = false := Bool.eq_false_iff.2 (fun e => hne ((one _).1 e _ hvn).symm)
        rw [fu, fv, decide_eq_true hun, decide_eq_true hvn]
        simp
      · have fu : allIn N [u.nm] = true := (one _).2 (fun y hy => (h2 y hy).resolve_right (fun e => hvn (e ▸ hy)))
        rw [fu, fv, decide_eq_true hun, decide_eq_false hvn]
        simp
    · have fv : allIn N [v.nm] = true := (one _).2 (fun y hy => (h2 y hy).resolve_left (fun e => hun (e ▸ hy)))
      have fu : allIn N [u.nm] = false := Bool.eq_false_iff.2 (fun e => hun ((one _).1 e s hs ▸ hs))
      rw [fu, fv, decide_eq_false hun]
      simp
  · have f2 : allIn N [u.nm, v.nm] = false := Bool.eq_false_iff.2 (fun e => h2 (two.1 e))
    have fu : allIn N [u.nm] = false := Bool.eq_false_iff.2 (fun e => h2 (fun y hy => .inl ((one _).1 e y hy)))
    have fv : allIn N [v.nm] = false := Bool.eq_false_iff.2 (fun e => h2 (fun y hy => .inr ((one _).1 e y hy)))
    rw [f2, fu, fv]
    simp
end Go.Proofs.YtkfajeicbkeigaaDoor
