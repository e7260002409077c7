/- What take leaves. -/
import Derived.Test.YtnpgfhoagpeelaaB7
namespace Go.Proofs.Ytnpgfhoagpeelaa
open Go.RowKit
open Go.Maps
def FmOk (fm : Fp → Option Nat) (E : List En) : Prop := ∀ f, IsFp f → fm f = fmE E f
def lnN (E : List En) : Nat := (E.map fun e => e.l.length).sum
def listE (E : List En) (f : Fp) : List Id := ((E.find? fun e => decide (e.h = f)).map (·.l)).getD []
def dN (E : List En) (f : Fp) (man : Id) : Nat := if man ∈ listE E f then 1 else 0
def cutL (l : List Id) (man : Id) : List Id := l.filter fun y => decide (y ≠ man)
def cutEn (man : Id) (e : En) : En := ⟨e.h, e.p, e.A, e.c, cutL e.l man, e.u⟩
def takeE (E : List En) (f : Fp) (man : Id) : List En := (E.map fun e => if e.h = f then cutEn man e else e).filter fun e => decide (e.l ≠ [])
/-- every list is one -/
def Full (E : List En) : Prop := ∀ e ∈ E, e.l ≠ [] ∧ e.l.Nodup
theorem lnN_mid (P S : List En) (e : En) : lnN (P ++ e :: S) = lnN (P ++ S) + e.l.length := by simp [lnN, List.sum_append]; omega
theorem lnN_perm {E E' : List En} (h : E.Perm E') : lnN E = lnN E' := (h.map _).sum_nat
theorem hk_ne {P S : List En} {e : En} (h : HkE (P ++ e :: S)) : ∀ x ∈ P ++ S, x.h ≠ e.h := by
  intro x hx q
  have := h.1
  rw [List.map_append, List.map_cons, List.nodup_append] at this
  obtain ⟨_, h2, h3⟩ := this
  rcases List.mem_append.1 hx with hx | hx
  · exact h3 x.h (List.mem_map.2 ⟨x, hx, rfl⟩) e.h (by simp) q
  · rw [List.nodup_cons] at h2
    exact h2.1 (by rw [← q]; exact List.mem_map.2 ⟨x, hx, rfl⟩)
theorem HkE.sub {E E' : List En} (h : HkE E) (hs : E'.Sublist E) : HkE E' := ⟨h.1.sublist (hs.map _), fun e he => h.2 e (hs.subset he)⟩
theorem HkE.perm {E E' : List En} (h : HkE E) (hs : E.Perm E') : HkE E' := ⟨(hs.map _).nodup_iff.1 h.1, fun e he => h.2 e (hs.mem_iff.2 he)⟩
theorem HkE.mid {P S : List En} {e e' : En} (h : HkE (P ++ e :: S)) (hh : e'.h = e.h) : HkE (P ++ e' :: S) := by
  refine ⟨?_, fun x hx => ?_⟩
  · have := h.1
    rw [List.map_append, List.map_cons] at this ⊢
    rw [hh]; exact this
  · rcases List.mem_append.1 hx with hx | hx
    · exact h.2 x (by simp [hx])
    · rcases List.mem_cons.1 hx with rfl | hx
      · rw [hh]; exact h.2 e (by simp)
      · exact h.2 x (by simp [hx])
theorem find_other {E : List En} {f : Fp} (h : ∀ x ∈ E, x.h ≠ f) : E.find? (fun x => decide (x.h = f)) = none := List.find?_eq_none.2 (fun x hx => by simpa using h x hx)
theorem find_midE {P S : List En} {e : En} (hP : ∀ x ∈ P, x.h ≠ e.h) : (P ++ e :: S).find? (fun x => decide (x.h = e.h)) = some e := by
  rw [List.find?_append, find_other hP]
  simp
theorem find_skip {P S : List En} {e : En} {f : Fp} (h : e.h ≠ f) : (P ++ e :: S).find? (fun x => decide (x.h = f)) = (P ++ S).find? (fun x => decide (x.h = f)) := by
  rw [List.find?_append, List.find?_append, List.find?_cons_of_neg (by simpa using h)]
theorem fm_other {P S : List En} {e e' : En} (h : e'.h = e.h) (hp : e'.p = e.p) (hk : HkE (P ++ e :: S)) (f : Fp) : fmE (P ++ e' :: S) f = fmE (P ++ e :: S) f := by
  unfold fmE
  by_cases q : e.h = f
  · subst q
    have hP : ∀ x ∈ P, x.h ≠ e.h := fun x hx => hk_ne hk x (by simp [hx])
    rw [find_midE hP]
    have := find_midE (S := S) (e := e') (P := P) (by rw [h]; exact hP)
    rw [h] at this
    rw [this]
    simp [hp]
  · rw [find_skip q, find_skip (by rw [h]; exact q)]
theorem fm_gone {P S : List En} {e : En} (hk : HkE (P ++ e :: S)) (f : Fp) : fmE (P ++ S) f = if f = e.h then none else fmE (P ++ e :: S) f := by
  unfold fmE
  by_cases q : f = e.h
  · subst q
    rw [if_pos rfl, find_other (hk_ne hk)]
    rfl
  · rw [if_neg q, find_skip (fun h => q h.symm)]
theorem fm_new {E : List En} {e : En} (h : ∀ x ∈ E, x.h ≠ e.h) (f : Fp) : fmE (E ++ [e]) f = if f = e.h then some e.p else fmE E f := by
  unfold fmE
  by_cases q : f = e.h
  · subst q
    rw [if_pos rfl, find_midE h]
    rfl
  · rw [if_neg q, find_skip (fun h => q h.symm), List.append_nil]
theorem fm_perm {E E' : List En} (hk : HkE E) (h : E.Perm E') (f : Fp) : fmE E' f = fmE E f := by
  have hk' := hk.perm h
  by_cases q : ∃ e ∈ E, e.h = f
  · obtain ⟨e, he, rfl⟩ := q
    rw [fm_mem hk he, fm_mem hk' (h.mem_iff.1 he)]
  · have h1 : ∀ x ∈ E, x.h ≠ f := fun x hx e => q ⟨x, hx, e⟩
    have h2 : ∀ x ∈ E', x.h ≠ f := fun x hx => h1 x (h.mem_iff.2 hx)
    unfold fmE
    rw [find_other h1, find_other h2]
theorem take_mid {P S : List En} {e : En} {man : Id} (hk : HkE (P ++ e :: S)) (hf : Full (P ++ S)) : takeE (P ++ e :: S) e.h man = P ++ (if cutL e.l man = [] then [] else [cutEn man e]) ++ S := by
  have hne := hk_ne hk
  have hid : ∀ L : List En, (∀ x ∈ L, x ∈ P ++ S) → (L.map fun x => if x.h = e.h then cutEn man x else x).filter (fun x => decide (x.l ≠ [])) = L := by
    intro L hL
    have : (L.map fun x => if x.h = e.h then cutEn man x else x) = L := by
      conv => rhs; rw [← List.map_id L]
      refine List.map_congr_left (fun x hx => ?_)
      rw [if_neg (hne x (hL x hx))]
      rfl
    rw [this]
    exact List.filter_eq_self.2 (fun x hx => decide_eq_true (hf x (hL x hx)).1)
  unfold takeE
  rw [List.map_append, List.map_cons, List.filter_append, List.filter_cons, hid P (fun x hx => by simp [hx]), hid S (fun x hx => by simp [hx]), if_pos rfl]
  by_cases q : cutL e.l man = []
  · rw [if_neg (by simp [cutEn, q]), if_pos q]; simp
  · rw [if_pos (by simp [cutEn, q]), if_neg q]; simp
theorem take_other {E : List En} {f : Fp} {man : Id} (h : ∀ x ∈ E, x.h ≠ f) (hf : Full E) : takeE E f man = E := by
  unfold takeE
  have : (E.map fun x => if x.h = f then cutEn man x else x) = E := by
    conv => rhs; rw [← List.map_id E]
    refine List.map_congr_left (fun x hx => ?_)
    rw [if_neg (h x hx)]
    rfl
  rw [this]
  exact List.filter_eq_self.2 (fun x hx => decide_eq_true (hf x hx).1)
theorem cut_miss {l : List Id} {man : Id} (h : man ∉ l) : cutL l man = l := List.filter_eq_self.2 (fun x hx => decide_eq_true (fun q => h (by rw [← q]; exact hx)))
theorem cut_hit : ∀ {l : List Id} {man : Id} {k : Nat}, l.Nodup → l[k]? = some man → l.eraseIdx k = cutL l man
  | [], _, _, _, h => by simp at h
  | a :: r, man, 0, hn, h => by
    simp at h
    subst h
    have := (List.nodup_cons.1 hn).1
    rw [List.eraseIdx_zero, List.tail_cons]
    unfold cutL
    rw [List.filter_cons_of_neg (by simp)]
    exact (cut_miss this).symm
  | a :: r, man, k + 1, hn, h => by
    have h2 : r[k]? = some man := by simpa using h
    have hm := List.mem_of_getElem? h2
    have hne : a ≠ man := fun q => (List.nodup_cons.1 hn).1 (by rw [q]; exact hm)
    rw [List.eraseIdx_cons_succ]
    unfold cutL
    rw [List.filter_cons_of_pos (by simpa using hne)]
    congr 1
    exact cut_hit (List.nodup_cons.1 hn).2 h2
theorem list_mid {P S : List En} {e : En} (hk : HkE (P ++ e :: S)) : listE (P ++ e :: S) e.h = e.l := by
  unfold listE
  rw [find_midE (fun x hx => hk_ne hk x (by simp [hx]))]
  rfl
theorem list_other {E : List En} {f : Fp} (h : ∀ x ∈ E, x.h ≠ f) : listE E f = [] := by unfold listE; rw [find_other h]; rfl
theorem split_hook (E : List En) (f : Fp) : (∀ x ∈ E, x.h ≠ f) ∨ ∃ P e S, E = P ++ e :: S ∧ e.h = f := by
  by_cases h : ∃ x ∈ E, x.h = f
  · obtain ⟨x, hx, he⟩ := h
    obtain ⟨P, S, rfl⟩ := List.append_of_mem hx
    exact .inr ⟨P, x, S, rfl, he⟩
  · exact .inl (fun x hx q => h ⟨x, hx, q⟩)
theorem dN_le (E : List En) (f : Fp) (man : Id) : dN E f man ≤ 1 := by unfold dN; split <;> omega
theorem ln_take {E : List En} {f : Fp} {man : Id} (hk : HkE E) (hf : Full E) : lnN E = lnN (takeE E f man) + dN E f man := by
  rcases split_hook E f with h | ⟨P, e, S, rfl, rfl⟩
  · rw [take_other h hf, dN, list_other h, if_neg (by simp)]
    rfl
  · rw [take_mid hk (fun x hx => hf x (by rcases List.mem_append.1 hx with h | h <;> simp [h])), dN, list_mid hk, lnN_mid]
    have hn := (hf e (by simp)).2
    by_cases hm : man ∈ e.l
    · rw [if_pos hm]
      obtain ⟨k, hk2⟩ := List.mem_iff_getElem?.1 hm
      have he := cut_hit hn hk2
      have hl : (cutL e.l man).length = e.l.length - 1 := by rw [← he]; exact List.length_eraseIdx_of_lt (List.getElem?_eq_some_iff.1 hk2).1
      have hpos := List.length_pos_of_mem hm
      by_cases q : cutL e.l man = []
      · rw [if_pos q, List.append_nil]
        rw [q] at hl
        simp at hl
        omega
      · rw [if_neg q, List.append_assoc, List.singleton_append, lnN_mid]
        show _ = lnN (P ++ S) + (cutL e.l man).length + 1
        omega
    · rw [if_neg hm, cut_miss hm, if_neg (hf e (by simp)).1, List.append_assoc, List.singleton_append, lnN_mid]
      simp [cutEn, cut_miss hm]
theorem take_full {E : List En} {f : Fp} {man : Id} (hf : Full E) : Full (takeE E f man) := fun x hx => by
  unfold takeE at hx
  rw [List.mem_filter] at hx
  refine ⟨by simpa using hx.2, ?_⟩
  obtain ⟨y, hy, rfl⟩ := List.mem_map.1 hx.1
  split
  · exact (hf y hy).2.filter _
  · exact (hf y hy).2
theorem take_mem {E : List En} {f : Fp} {man : Id} {x : En} (hx : x ∈ takeE E f man) : ∃ y ∈ E, x.h = y.h ∧ x.u = y.u ∧ x.l.Sublist y.l := by
  unfold takeE at hx
  obtain ⟨y, hy, rfl⟩ := List.mem_map.1 (List.mem_filter.1 hx).1
  refine ⟨y, hy, ?_⟩
  split
  · exact ⟨rfl, rfl, List.filter_sublist⟩
  · exact ⟨rfl, rfl, List.Sublist.refl _⟩
theorem take_hk {E : List En} {f : Fp} {man : Id} (h : HkE E) : HkE (takeE E f man) := by
  refine ⟨?_, fun x hx => by obtain ⟨y, hy, e, _⟩ := take_mem hx; rw [e]; exact h.2 y hy⟩
  unfold takeE
  refine List.Nodup.sublist (List.filter_sublist.map _) ?_
  rw [List.map_map]
  have : (E.map ((fun x => x.h) ∘ fun e => if e.h = f then cutEn man e else e)) = E.map (·.h) := List.map_congr_left (fun x _ => by
    simp only [Function.comp]
    split <;> rfl)
  rw [this]
  exact h.1
theorem take_srt {E : List En} {f : Fp} {man : Id} (h : E.Pairwise (fun a b => a.u < b.u)) : (takeE E f man).Pairwise (fun a b => a.u < b.u) := by
  unfold takeE
  refine List.Pairwise.sublist List.filter_sublist ?_
  rw [List.pairwise_map]
  refine h.imp (fun {a b} hab => ?_)
  have e : ∀ x : En, (if x.h = f then cutEn man x else x).u = x.u := fun x => by split <;> rfl
  rw [e, e]
  exact hab
def TakePost (T : Nat → Prop) (W0 : World) (base xb mb ph mo now n : Nat) (E : List En) (f : Fp) (man : Id) (r : Ending) (W' : World) : Prop :=
  ∃ fm', r = .returned (.int .i64 (dN E f man : Nat)) ∧ At T W0 W' base xb mb ph mo (lnN (takeE E f man) : Nat) now n fm' (takeE E f man) ∧ FmOk fm' (takeE E f man)
theorem take33 {T : Nat → Prop} {W0 W : World} {base xb mb ph mo now n : Nat} {fm : Fp → Option Nat} {E : List En} {f : Fp} {man : Id} (h : At T W0 W base xb mb ph mo (lnN E : Nat) now n fm E) (hf : IsFp f) (hfm : FmOk fm E) (hk : HkE E) (hg : Full E) (hl : lnN E ≤ 1000000) :
    Calls Try.prog 33 #[.pointer (some ⟨xb, 0, none⟩), .agg (fpL f).toArray, .int .u32 man] W (TakePost T W0 base xb mb ph mo now n E f man) := by
  have hlt := ln_take (f := f) (man := man) hk hg
  rcases split_hook E f with hno | ⟨P, e, S, rfl, rfl⟩
  · have ht := take_other (man := man) hno hg
    have hd : dN E f man = 0 := by rw [dN, list_other hno, if_neg (by simp)]
    refine (take33_none h hf (by rw [hfm f hf, fmE, find_other hno]; rfl)).mono (fun r W' q => ⟨fm, ?_, ?_, ?_⟩)
    · rw [hd]; exact q.1
    · rw [ht]; exact q.2
    · rw [ht]; exact hfm
  · have hfp : fm e.h = some e.p := by rw [hfm _ hf, fm_mem hk (mem_mid P S e)]
    have hrest : Full (P ++ S) := fun x hx => hg x (by rcases List.mem_append.1 hx with h | h <;> simp [h])
    have ht := take_mid (man := man) hk hrest
    have hne := (hg e (mem_mid P S e)).1
    have hnd := (hg e (mem_mid P S e)).2
    have hll : e.l.length ≤ 1000000 := by rw [lnN_mid] at hl; omega
    rcases idx_spec e.l man with ⟨hm, hi⟩ | ⟨k, hk1, hi, hkm⟩
    · have hd : dN (P ++ e :: S) e.h man = 0 := by rw [dN, list_mid hk, if_neg hm]
      rw [cut_miss hm, if_neg hne] at ht
      have he : cutEn man e = e := by unfold cutEn; rw [cut_miss hm]
      rw [he, List.append_assoc, List.singleton_append] at ht
      refine (take33_miss (p := e.p) (A := e.A) (c := e.c) (l := e.l) (u := e.u) (f := e.h) (P := P) (S := S) h hf hfp hll hi).mono (fun r W' q => ⟨fm, ?_, ?_, ?_⟩)
      · rw [hd]; exact q.1
      · rw [ht]; exact q.2
      · rw [ht]; exact hfm
    · have hm := List.mem_of_getElem? hkm
      have hd : dN (P ++ e :: S) e.h man = 1 := by rw [dN, list_mid hk, if_pos hm]
      have hcut := cut_hit hnd hkm
      have hp1 : (1 : Int) ≤ ((lnN (P ++ e :: S) : Nat) : Int) := by rw [hlt, hd]; omega
      have hpp : ((lnN (P ++ e :: S) : Nat) : Int) - 1 = (lnN (takeE (P ++ e :: S) e.h man) : Nat) := by rw [hlt, hd]; omega
      by_cases q : cutL e.l man = []
      · rw [if_pos q, List.append_nil] at ht
        refine (take33_last (p := e.p) (A := e.A) (c := e.c) (l := e.l) (u := e.u) (f := e.h) (P := P) (S := S) h hf hfp hll hp1 (by omega) hk1 hi hcut q).mono (fun r W' q => ⟨setFm fm e.h none, ?_, ?_, ?_⟩)
        · rw [hd]; exact q.1
        · have := q.2
          rw [hpp] at this
          rw [ht] at this ⊢
          exact this
        · rw [ht]
          intro g hg2
          rw [fm_gone hk, setFm, hfm g hg2]
      · rw [if_neg q, List.append_assoc, List.singleton_append] at ht
        refine (take33_more (p := e.p) (A := e.A) (c := e.c) (l := e.l) (u := e.u) (f := e.h) (P := P) (S := S) h hf hfp hll hp1 (by omega) hk1 hi hcut q).mono (fun r W' q => ⟨fm, ?_, ?_, ?_⟩)
        · rw [hd]; exact q.1
        · have := q.2
          rw [hpp] at this
          rw [ht] at this ⊢
          exact this
        · rw [ht]
          intro g hg2
          rw [hfm g hg2]
          exact (fm_other (e := e) (e' := cutEn man e) rfl rfl hk g).symm
end Go.Proofs.Ytnpgfhoagpeelaa
