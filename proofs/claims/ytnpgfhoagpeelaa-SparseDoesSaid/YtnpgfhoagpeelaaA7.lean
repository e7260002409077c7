/- Rows of fingerprints that are the call's own; how they are sorted. -/
import Derived.Test.YtnpgfhoagpeelaaA5
import Derived.Test.YtnpgfhoagpeelaaA6
import Derived.Test.YtnpgfhoagpeelaaShelf
import Derived.Lib.OwnBridge
import Derived.Shelf.SlSortCmp.NoneTotal
namespace Go.Proofs.Ytnpgfhoagpeelaa
open Go.RowKit
open Go.Sort Go.Lib
theorem own_some {W : World} {base : Nat} {e : TypeId} {size : Nat} {v : Value} {k : Nat} {xs : List Value} (h : W.ownsRow base e size v k xs) (hne : v ≠ .slice none 0 0) : ∃ g cap, v = .slice (some ⟨g, 0, none⟩) k cap ∧ base ≤ g ∧ g < W.heap.size ∧ k ≤ cap := by
  rcases h.2 with ⟨e0, _⟩ | ⟨g, cap, cur, rfl, hb, hg, hn, hm, hs, ht⟩
  · exact absurd e0 hne
  · exact ⟨g, cap, rfl, hb, (Array.getElem?_eq_some_iff.1 hg).1, hn⟩
theorem own_block {w : World} {base : Nat} {e size n : Nat} {g c : Nat} {xs : List Value} (h : w.ownsRow base e size (.slice (some ⟨g, 0, none⟩) n c) n xs) : base ≤ g ∧ ∃ cur, w.heap[g]? = some (.cells cur e (0, 0)) := by
  rcases h.2 with ⟨e0, _⟩ | ⟨g', cap', cur, e0, hb, hg, _⟩
  · cases e0
  · injection e0 with e1 _ e3
    injection e1 with e1
    injection e1 with e1
    subst e1
    exact ⟨hb, cur, hg⟩
theorem holds_id {w : World} {base e size n g c : Nat} {xs : List Value} (h : w.ownsRow base e size (.slice (some ⟨g, 0, none⟩) n c) n xs) : Holds id w g 0 xs.toArray := by
  have hl := h.1
  rcases h.2 with ⟨e0, _⟩ | ⟨g', cap', cur, e0, hb, hg, hn, hm, hs, ht⟩
  · cases e0
  · injection e0 with e1 _ e3
    injection e1 with e1
    injection e1 with e1
    subst e1; subst e3
    intro j hj
    have hj' : j < n * size := by simpa [hl] using hj
    refine ⟨?_, by simp [World.frozen?, hg]⟩
    have e1 : (cur.toList.take (n * size))[j]? = xs[j]? := by rw [ht]
    rw [List.getElem?_take, if_pos hj', Array.getElem?_toList, List.getElem?_eq_getElem (by omega)] at e1
    simp only [World.cell?, hg, Nat.zero_add]
    simp only [Option.isSome_none, Bool.false_eq_true, if_false]
    rw [e1]
    simp [getElem!_pos, show j < xs.length by omega]
theorem own_putId {w : World} {base e size g n cap q k : Nat} {xs ys : List Value} (h : w.ownsRow base e size (.slice (some ⟨g, 0, none⟩) n cap) n xs) (hy : ys.length = n * size) (hk : k ≤ n) :
    (putRow id (Sort.ahead w q) g 0 ys.toArray).ownsRow base e size (.slice (some ⟨g, 0, none⟩) k cap) k (ys.take (k * size)) := by
  have hks : k * size ≤ n * size := Nat.mul_le_mul_right _ hk
  rcases h.2 with ⟨e0, _⟩ | ⟨g', cap', cur, e0, hb, hg, hn, hm, hs, ht⟩
  · cases e0
  · injection e0 with e1 _ e3
    injection e1 with e1
    injection e1 with e1
    subst e1; subst e3
    have hnc : n * size ≤ cap * size := Nat.mul_le_mul_right _ hn
    refine ⟨by rw [List.length_take]; omega, .inr ⟨g, cap, putCells id 0 ys.toArray cur, rfl, hb, ?_, by omega, hm, by simpa [putCells] using hs, ?_⟩⟩
    · simp [putRow, mapBlock, Sort.ahead, Array.getElem?_modify, hg, onCells]
    · apply List.ext_getElem?
      intro j
      rw [List.getElem?_take, List.getElem?_take, Array.getElem?_toList]
      by_cases hj : j < k * size
      · have hjc : j < cur.size := by omega
        simp only [if_pos hj, putCells, Array.getElem?_mapIdx, Array.getElem?_eq_getElem hjc, Option.map_some]
        rw [if_pos (by simp; omega), List.getElem?_eq_getElem (by omega)]
        simp [getElem!_pos, show j < ys.length by omega]
      · simp [hj]
theorem grown_putId {w : World} {g n : Nat} {os : Array Obj} (d : Array Value) : w.grownBy (grow (putRow id (Sort.ahead w n) g 0 d) os) (some g) := by
  refine ⟨rfl, rfl, rfl, by simp, fun k hk hne => ?_⟩
  rw [heap_grow_old _ _ (by simpa using hk)]
  have : g ≠ k := fun e => hne (by rw [e])
  simp [putRow, mapBlock, Sort.ahead, Array.getElem?_modify, this]
theorem own_grow {w : World} {base e size n : Nat} {v : Value} {xs : List Value} (h : w.ownsRow base e size v n xs) (os : Array Obj) : (grow w os).ownsRow base e size v n xs := own_below h (Gr.below ⟨0, os, rfl⟩)
/-- a row of fingerprints, the call's own -/
def OwnF (w : World) (base g cap : Nat) (s : List Fp) : Prop :=
  w.ownsRow base 47 32 (.slice (some ⟨g, 0, none⟩) s.length cap) s.length (fsL s) ∧ AllFp s
theorem OwnF.fps {w : World} {base g cap : Nat} {s : List Fp} (h : OwnF w base g cap s) : Fps w (some ⟨g, 0, none⟩) s := row_own h.1
theorem OwnF.kept {w w' : World} {base g cap : Nat} {s : List Fp} {row : Option Nat} (h : OwnF w base g cap s) (hg : w.grownBy w' row) (hne : row ≠ some g) : OwnF w' base g cap s := ⟨h.1.kept hg (.inr (fun e => hne e.symm)), h.2⟩
theorem OwnF.below {w w' : World} {base g cap : Nat} {s : List Fp} (h : OwnF w base g cap s) (hb : Below w.heap.size w w') : OwnF w' base g cap s := ⟨own_below h.1 hb, h.2⟩
theorem OwnF.lt {w : World} {base g cap : Nat} {s : List Fp} (h : OwnF w base g cap s) : g < w.heap.size := by
  obtain ⟨_, _, hg⟩ := own_block h.1
  exact (Array.getElem?_eq_some_iff.1 hg).1
abbrev Fq := { f : Fp // IsFp f }
instance : Inhabited Fq := ⟨⟨List.replicate 32 0, by simp [IsFp]⟩⟩
def fqL (x : Fq) : List Value := fpL x.1
theorem fqL_len (x : Fq) : (fqL x).length = 32 := fpL_length x.2
theorem flatK_list {α : Type} [Inhabited α] (enc : α → List Value) (k : Nat) (hk : ∀ x, (enc x).length = k) (hp : 0 < k) (l : List α) : flatK enc k l.toArray = (l.flatMap enc).toArray := by
  have hl : (l.flatMap enc).length = l.length * k := flat_len (fun x _ => hk x)
  apply Array.ext
  · rw [size_flatK]; simp [hl]
  · intro t h1 h2
    have ht : t < l.length * k := by rw [size_flatK] at h1; simpa using h1
    have hq : t / k < l.length := Nat.div_lt_of_lt_mul (by rw [Nat.mul_comm]; exact ht)
    have hm := Nat.mod_lt t hp
    have e0 : t / k * k + t % k = t := by rw [Nat.mul_comm]; exact Nat.div_add_mod t k
    have e1 := get_flatK enc k l.toArray t (by simpa using ht)
    rw [getElem!_pos _ t h1] at e1
    have e2 : l.toArray[t / k]! = l[t / k] := by rw [getElem!_pos _ _ (by simpa using hq)]; simp
    rw [e2] at e1
    have e3 := flat_get (f := enc) (n := k) (l := l) (fun x _ => hk x) (t / k) (t % k) l[t / k] _ (List.getElem?_eq_getElem hq) (List.getElem?_eq_getElem (by rw [hk]; exact hm))
    rw [e0] at e3
    rw [e1, getElem!_pos _ _ (by rw [hk]; exact hm)]
    have e4 : (l.flatMap enc)[t]? = some (l.flatMap enc)[t] := List.getElem?_eq_getElem (by rw [hl]; exact ht)
    rw [e3] at e4
    have := Option.some.inj e4
    simp only [List.getElem_toArray]
    exact this
theorem fqs_of : ∀ (s : List Fp), AllFp s → ∃ l : List Fq, l.map (·.1) = s
  | [], _ => ⟨[], rfl⟩
  | f :: s, h => by
    obtain ⟨l, hl⟩ := fqs_of s (fun x hx => h x (List.mem_cons_of_mem _ hx))
    exact ⟨⟨f, h f (List.mem_cons_self ..)⟩ :: l, by rw [List.map_cons, hl]⟩
theorem fqL_flat (l : List Fq) : l.flatMap fqL = fsL (l.map (·.1)) := by
  unfold fsL fqL
  rw [List.flatMap_map]
def cmpQ (x y : Fq) : Int := cmpF x.1 y.1
theorem ltQ (x y : Fq) : ltOf cmpQ x y = lessF x.1 y.1 := rfl
theorem swoQ : SWO (ltOf cmpQ) where
  irrefl x := by rw [ltQ]; exact lessF_irrefl _
  trans x y z h1 h2 := by rw [ltQ] at *; exact lessF_trans h1 h2
  ntrans x y z h1 h2 := by
    rw [ltQ] at *
    cases h : lessF x.1 z.1 with
    | false => rfl
    | true =>
      exfalso
      cases h3 : lessF y.1 x.1 with
      | true => have := lessF_trans h3 h; rw [this] at h2; cases h2
      | false =>
        have := lessF_total h1 h3
        rw [this, h2] at h
        cases h
theorem totQ (x y : Fq) (h1 : ltOf cmpQ x y = false) (h2 : ltOf cmpQ y x = false) : x = y := Subtype.ext (lessF_total h1 h2)
set_option maxHeartbeats 1000000 in
theorem sort58 {w : World} {base g cap : Nat} {s : List Fp} (h : OwnF w base g cap s) (hn : s.length < 4611686018427387904) :
    Calls Try.prog 34 #[.slice (some ⟨g, 0, none⟩) s.length cap, .func (.func 39) #[] #[]] w fun e w' => e = .returned (.tuple #[]) ∧ ∃ s', s'.length = s.length ∧ (∀ x, x ∈ s' ↔ x ∈ s) ∧ s'.Pairwise (fun a b => lessF b a = false) ∧ OwnF w' base g cap s' ∧ w.grownBy w' (some g) := by
  obtain ⟨l, hlv⟩ : ∃ l : List Fq, l.map (·.1) = s := fqs_of s h.2
  have hsz : l.length = s.length := by rw [← hlv, List.length_map]
  have hH : HoldsK fqL 32 w g 0 l.toArray := by
    unfold HoldsK
    rw [flatK_list fqL 32 fqL_len (by decide), fqL_flat, hlv]
    exact holds_id h.1
  have eg : ∀ args w, (callFunc 39 args).run Try.prog w = .ok (.enter 39 args) w := enters_of Try.func39 (by kernel_rfl) rfl
  have hS := AnyQ.slices_SortFunc_total Try.sortFp 32 (fun w => Try.isAgg47 w) (fun w => Try.sizeOf47 w) fqL fqL_len (fun x => fpL_one) cmpQ swoQ 39 #[] g 0 cap l.toArray w eg
    (fun m os dk _ x y => by
      have hc := closure59 (w := sortWorldK fqL 32 w g 0 m dk os) x.2 y.2
      exact hc.mono (fun e w' ⟨h1, h2⟩ => ⟨h1, h2⟩)) hH h.lt (by simpa [hsz] using hn) totQ
  change Calls Try.prog 34 _ _ _ at hS
  rw [List.size_toArray, hsz] at hS
  refine hS.mono ?_
  rintro e w' ⟨he, n, os, rfl⟩
  have hperm : ((l.toArray.toList).mergeSort fun x y => !ltOf cmpQ y x).Perm l := by simpa using List.mergeSort_perm l (fun x y => !ltOf cmpQ y x)
  have hsort : ((l.toArray.toList).mergeSort fun x y => !ltOf cmpQ y x).Pairwise (fun x y => (!ltOf cmpQ y x) = true) := by
    refine List.pairwise_mergeSort (fun a b c h1 h2 => ?_) (fun a b => ?_) _
    · rw [Bool.not_eq_true'] at *
      exact swoQ.ntrans _ _ _ h2 h1
    · rw [Bool.or_eq_true, Bool.not_eq_true', Bool.not_eq_true']
      cases hb : ltOf cmpQ b a with
      | false => exact .inl rfl
      | true => exact .inr (lessF_asymm hb)
  generalize (l.toArray.toList).mergeSort (fun x y => !ltOf cmpQ y x) = m at *
  have hml : (m.map (·.1)).length = s.length := by rw [List.length_map, hperm.length_eq, hsz]
  refine ⟨he, m.map (·.1), hml, fun x => ?_, ?_, ⟨?_, ?_⟩, ?_⟩
  · rw [← hlv, List.mem_map, List.mem_map]
    exact ⟨fun ⟨y, h1, h2⟩ => ⟨y, hperm.mem_iff.1 h1, h2⟩, fun ⟨y, h1, h2⟩ => ⟨y, hperm.mem_iff.2 h1, h2⟩⟩
  · rw [List.pairwise_map]
    exact hsort.imp (fun {a b} h => by rw [ltQ] at h; simpa using h)
  · rw [hml]
    unfold sortWorldK putRowK
    rw [flatK_list fqL 32 fqL_len (by decide), fqL_flat]
    have hfl : (fsL (m.map (·.1))).length = s.length * 32 := by
      rw [fsL_len (fun f hf => by obtain ⟨y, _, rfl⟩ := List.mem_map.1 hf; exact y.2), hml]
    have := own_grow (own_putId (q := n) (k := s.length) h.1 hfl (Nat.le_refl _)) os
    rwa [List.take_of_length_le (by omega)] at this
  · exact fun f hf => by obtain ⟨y, _, rfl⟩ := List.mem_map.1 hf; exact y.2
  · unfold sortWorldK putRowK
    exact grown_putId _
theorem sort58_none (A : Option Addr) (c : Nat) (w : World) : Calls Try.prog 34 #[.slice A 0 c, .func (.func 39) #[] #[]] w fun e w' => e = .returned (.tuple #[]) ∧ w' = w :=
  AnyF.slices_SortFunc_none (P := Try.prog) (ρ := Try.sortFp_ren) { Try.sortFp with } A c (.func (.func 39) #[] #[]) w
end Go.Proofs.Ytnpgfhoagpeelaa
