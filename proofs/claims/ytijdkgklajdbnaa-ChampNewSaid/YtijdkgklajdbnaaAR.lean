/- How numbers are ranked: the law; the sort. -/
import Derived.Test.YtijdkgklajdbnaaAQ
namespace Go.Proofs.Ytijdkgklajdbnaa
open Go.RowKit
open Go.Sort Go.Lib
open Go.Maps
def Before (f : Id → Nat) (x y : Id) : Prop := f y < f x ∨ (f x = f y ∧ y < x)
theorem Before.irrefl {f : Id → Nat} {x : Id} : ¬ Before f x x := fun h => h.elim (fun h => Nat.lt_irrefl _ h) (fun h => Int.lt_irrefl _ h.2)
theorem bef_asymm (a b : Nat) (x y : Int) : (b < a ∨ (a = b ∧ y < x)) → ¬ (a < b ∨ (b = a ∧ x < y)) := by omega
theorem bef_total (a b : Nat) (x y : Int) : ¬ (b < a ∨ (a = b ∧ y < x)) → ¬ (a < b ∨ (b = a ∧ x < y)) → x = y := by omega
theorem bef_trans (a b c : Nat) (x y z : Int) : (b < a ∨ (a = b ∧ y < x)) → (c < b ∨ (b = c ∧ z < y)) → (c < a ∨ (a = c ∧ z < x)) := by omega
theorem Before.asymm {f : Id → Nat} {x y : Id} (h : Before f x y) : ¬ Before f y x := bef_asymm _ _ _ _ h
theorem Before.total {f : Id → Nat} {x y : Id} (h : ¬ Before f x y) (h2 : ¬ Before f y x) : x = y := bef_total _ _ _ _ h h2
theorem Before.trans {f : Id → Nat} {x y z : Id} (h : Before f x y) (h2 : Before f y z) : Before f x z := bef_trans _ _ _ _ _ _ h h2
/-- the numbers that have been named, as they are ranked -/
def RankIs (f : Id → Nat) (R : List Id) : Prop := (∀ x, x ∈ R ↔ 0 < f x) ∧ R.Pairwise (Before f)
theorem strict_unique {f : Id → Nat} : ∀ {R S : List Id}, R.Pairwise (Before f) → S.Pairwise (Before f) → (∀ x, x ∈ R ↔ x ∈ S) → R = S
  | [], [], _, _, _ => rfl
  | [], y :: _, _, _, h => nomatch ((h y).2 (List.mem_cons_self ..))
  | x :: _, [], _, _, h => nomatch ((h x).1 (List.mem_cons_self ..))
  | x :: R, y :: S, hr, hs, h => by
    rw [List.pairwise_cons] at hr hs
    have e : x = y := by
      rcases List.mem_cons.1 ((h x).1 (List.mem_cons_self ..)) with e | hx
      · exact e
      · rcases List.mem_cons.1 ((h y).2 (List.mem_cons_self ..)) with e | hy
        · exact e.symm
        · exact absurd (hr.1 y hy) (hs.1 x hx).asymm
    subst e
    congr 1
    refine strict_unique hr.2 hs.2 (fun z => ⟨fun hz => ?_, fun hz => ?_⟩)
    · rcases List.mem_cons.1 ((h z).1 (List.mem_cons_of_mem _ hz)) with e | hz2
      · subst e; exact absurd (hr.1 z hz) Before.irrefl
      · exact hz2
    · rcases List.mem_cons.1 ((h z).2 (List.mem_cons_of_mem _ hz)) with e | hz2
      · subst e; exact absurd (hs.1 z hz) Before.irrefl
      · exact hz2
theorem RankIs.unique {f : Id → Nat} {R S : List Id} (h : RankIs f R) (k : RankIs f S) : R = S := strict_unique h.2 k.2 (fun x => (h.1 x).trans (k.1 x).symm)
theorem cmpI_lt (x y : Int) : cmpI x y < 0 ↔ x < y := by unfold cmpI; split; · simp_all
                                                         · split <;> simp_all
theorem cmpI_eq (x y : Int) : cmpI x y = 0 ↔ x = y := by unfold cmpI; split; · next h => exact ⟨fun h => by omega, fun e => absurd h (by rw [e]; exact Int.lt_irrefl _)⟩
                                                         · next h => split
                                                                     · next h2 => exact ⟨fun h => by omega, fun e => absurd h2 (by rw [e]; exact Int.lt_irrefl _)⟩
                                                                     · next h2 => exact ⟨fun _ => Int.le_antisymm (Int.not_lt.1 h2) (Int.not_lt.1 h), fun _ => rfl⟩
theorem cmpR_lt (f : Id → Nat) (x y : Id) : cmpR f x y < 0 ↔ Before f x y := by
  unfold cmpR Before
  split
  · next h =>
    rw [cmpI_eq] at h
    rw [cmpI_lt]
    exact ⟨fun h2 => .inr ⟨by omega, h2⟩, fun h2 => h2.elim (fun q => by omega) (fun q => q.2)⟩
  · next h =>
    rw [cmpI_eq] at h
    rw [cmpI_lt]
    omega
abbrev Uq := { x : Id // IdOk x }
instance : Inhabited Uq := ⟨⟨0, by simp [IdOk]⟩⟩
def uqV (x : Uq) : Value := .int .u32 x.1
def cmpU (f : Id → Nat) (x y : Uq) : Int := cmpR f x.1 y.1
theorem ltU (f : Id → Nat) (x y : Uq) : ltOf (cmpU f) x y = true ↔ Before f x.1 y.1 := by
  rw [← cmpR_lt]
  exact decide_eq_true_iff
theorem ltU_f (f : Id → Nat) (x y : Uq) : ltOf (cmpU f) x y = false ↔ ¬ Before f x.1 y.1 := by
  rw [← ltU, Bool.not_eq_true]
theorem swoU (f : Id → Nat) : SWO (ltOf (cmpU f)) where
  irrefl x := by rw [ltU_f]; exact Before.irrefl
  trans x y z h1 h2 := by rw [ltU] at *; exact h1.trans h2
  ntrans x y z h1 h2 := by
    rw [ltU_f] at *
    intro h
    by_cases h3 : Before f y.1 x.1
    · exact h2 (h3.trans h)
    · have := Before.total h1 h3
      rw [this] at h
      exact h2 h
theorem totU (f : Id → Nat) (x y : Uq) (h1 : ltOf (cmpU f) x y = false) (h2 : ltOf (cmpU f) y x = false) : x = y := by
  rw [ltU_f] at *
  exact Subtype.ext (Before.total h1 h2)
theorem uqs_of : ∀ (s : List Id), (∀ x ∈ s, IdOk x) → ∃ l : List Uq, l.map (·.1) = s
  | [], _ => ⟨[], rfl⟩
  | f :: s, h => by
    obtain ⟨l, hl⟩ := uqs_of s (fun x hx => h x (List.mem_cons_of_mem _ hx))
    exact ⟨⟨f, h f (List.mem_cons_self ..)⟩ :: l, by rw [List.map_cons, hl]⟩
theorem uqV_map (l : List Uq) : l.map uqV = idL (l.map (·.1)) := by
  unfold uqV idL
  rw [List.map_map]
  rfl
theorem pw_strict {f : Id → Nat} {l : List Id} (h : l.Pairwise (fun x y => ¬ Before f y x)) (hn : l.Nodup) : l.Pairwise (Before f) := by
  unfold List.Nodup at hn
  exact (h.and hn).imp (fun {a b} q => Classical.byContradiction (fun h2 => q.2 (Before.total h2 q.1)))
theorem grown_sortU {w : World} {g m : Nat} {os : Array Obj} (dk : Array Uq) : w.grownBy (sortWorld uqV w g 0 m dk os) (some g) := by
  unfold sortWorld
  refine ⟨rfl, rfl, rfl, by simp, fun k hk hne => ?_⟩
  rw [heap_grow_old _ _ (by simpa using hk)]
  have : g ≠ k := fun e => hne (by rw [e])
  simp [putRow, mapBlock, Sort.ahead, Array.getElem?_modify, this]
theorem eg43 : ∀ args w, (callFunc 43 args).run Try.prog w = .ok (.enter 43 args) w := enters_of Try.func43 (by kernel_rfl) rfl
set_option maxHeartbeats 1000000 in
theorem sort42 {w : World} {base g cap g0 b : Nat} {f : Id → Nat} {xs : List Id} (h : w.ownsRow base 24 1 (.slice (some ⟨g, 0, none⟩) xs.length cap) xs.length (idL xs)) (hx : ∀ x ∈ xs, IdOk x) (hnd : xs.Nodup) (hc : Cnts w b f) (hg : w.cell? ⟨g0, 0, none⟩ = some (.map (some b))) (hne : g0 ≠ g) (hbg : b ≠ g) (hn : xs.length ≤ 1000000) :
    Calls Try.prog 42 #[.slice (some ⟨g, 0, none⟩) xs.length cap, .func (.func 43) #[] #[.pointer (some ⟨g0, 0, none⟩)]] w fun e w' => e = .returned (.tuple #[]) ∧ ∃ R, R.length = xs.length ∧ (∀ x, x ∈ R ↔ x ∈ xs) ∧ R.Pairwise (Before f) ∧ w'.ownsRow base 24 1 (.slice (some ⟨g, 0, none⟩) R.length cap) R.length (idL R) ∧ w.grownBy w' (some g) := by
  obtain ⟨l, hlv⟩ : ∃ l : List Uq, l.map (·.1) = xs := uqs_of xs hx
  have hsz : l.length = xs.length := by rw [← hlv, List.length_map]
  have ho' : w.ownsRow base 24 1 (.slice (some ⟨g, 0, none⟩) xs.length cap) xs.length (l.map uqV) := by rw [uqV_map, hlv]; exact h
  obtain ⟨g', cap', e1, _, hglt, _, _, _, hH⟩ := Lib.holds_of_ownsRow ho' (fun e => by injection e with e _ _; cases e)
  injection e1 with e1 _ e3
  injection e1 with e1
  injection e1 with e1
  subst e1
  have hg0l : g0 < w.heap.size := by
    unfold World.cell? at hg
    cases hq : w.heap[g0]? with
    | none => rw [hq] at hg; cases hg
    | some o => exact (Array.getElem?_eq_some_iff.1 hq).1
  have hS := Any.slices_SortFunc_total Try.sortU uqV (fun _ => rfl) (cmpU f) (swoU f) 43 #[.pointer (some ⟨g0, 0, none⟩)] g 0 cap l.toArray w eg43
    (fun m os dk _ x y => by
      have hcn : Cnts (sortWorld uqV w g 0 m dk os) b f := by
        obtain ⟨n, D, h1, h2, h3⟩ := hc
        exact ⟨n, D, h1, h2, h3.kept (grown_sortU dk) (fun e => hbg (Option.some.inj e))⟩
      have hcl : (sortWorld uqV w g 0 m dk os).cell? ⟨g0, 0, none⟩ = some (.map (some b)) := by
        unfold sortWorld
        rw [cell?_grow _ _ _ (by show g0 < (putRow _ _ _ _ _).heap.size; rw [size_putRow]; exact hg0l), cell?_putRow_other _ _ g 0 _ _ (Or.inl hne)]
        exact hg
      exact (closure43 hcn x.2 y.2 hcl).mono (fun e w' ⟨h1, h2⟩ => ⟨h1, h2⟩)) hH hglt (by rw [List.size_toArray, hsz]; omega) (totU f)
  change Calls Try.prog 42 _ _ _ at hS
  rw [List.size_toArray, hsz] at hS
  refine hS.mono ?_
  rintro e w' ⟨he, n, os, rfl⟩
  have hperm : ((l.toArray.toList).mergeSort fun x y => !ltOf (cmpU f) y x).Perm l := by simpa using List.mergeSort_perm l (fun x y => !ltOf (cmpU f) y x)
  have hsort : ((l.toArray.toList).mergeSort fun x y => !ltOf (cmpU f) y x).Pairwise (fun x y => (!ltOf (cmpU f) y x) = true) := by
    refine List.pairwise_mergeSort (fun a b c h1 h2 => ?_) (fun a b => ?_) _
    · rw [Bool.not_eq_true'] at *
      exact (swoU f).ntrans _ _ _ h2 h1
    · rw [Bool.or_eq_true, Bool.not_eq_true', Bool.not_eq_true']
      cases hb : ltOf (cmpU f) b a with
      | false => exact .inl rfl
      | true =>
        refine .inr ?_
        rw [ltU] at hb
        rw [ltU_f]
        exact hb.asymm
  generalize (l.toArray.toList).mergeSort (fun x y => !ltOf (cmpU f) y x) = m at *
  have hml : m.length = xs.length := by rw [hperm.length_eq, hsz]
  have hmp : (m.map (·.1)).Perm xs := by rw [← hlv]; exact hperm.map _
  refine ⟨he, m.map (·.1), by rw [List.length_map, hml], fun x => hmp.mem_iff, ?_, ?_, grown_sortU _⟩
  · refine pw_strict ?_ (hmp.nodup_iff.2 hnd)
    rw [List.pairwise_map]
    exact hsort.imp (fun {a b} h => by rw [Bool.not_eq_true', ltU_f] at h; exact h)
  · unfold sortWorld
    have h3 := Lib.ownsRow_putRow (q := n) (k := xs.length) ho' (ys := m) hml (Nat.le_refl _)
    rw [List.take_of_length_le (by omega), uqV_map] at h3
    have := own_grow h3 os
    rw [List.length_map, hml]
    exact this
theorem sort42_none (A : Option Addr) (c : Nat) (v : Value) (w : World) : Calls Try.prog 42 #[.slice A 0 c, v] w fun e w' => e = .returned (.tuple #[]) ∧ w' = w :=
  AnyF.slices_SortFunc_none (P := Try.prog) (ρ := Try.sortU_ren) { Try.sortU with } A c v w
end Go.Proofs.Ytijdkgklajdbnaa
