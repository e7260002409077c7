/- Rows of numbers in memory; the walks over the reference's Numbers, fit, all. -/
import Derived.Test.YtjakkmioofbcaaaDoorC2
namespace Go.Proofs.YtjakkmioofbcaaaDoor
open Go.RowKit
/-- numbers in memory -/
def Is (w : World) (v : Value) (l : List Int) : Prop :=
  (∃ A c, v = .slice A l.length c) ∧ (l ≠ [] → ∃ b o c, v = .slice (some ⟨b, o, none⟩) l.length c ∧ b < w.heap.size ∧ l.length ≤ c ∧ ∀ i, i < l.length → w.cell? ⟨b, o + i, none⟩ = some (.int .i64 (l.getD i 0)))
theorem Is.below {B : Nat} {w w' : World} {v : Value} {l : List Int} (h : Is w v l) (hB : w.heap.size ≤ B) (hb : Below B w w') : Is w' v l := by
  refine ⟨h.1, fun hl => ?_⟩
  obtain ⟨b, o, c, e, hlt, hcap, hc⟩ := h.2 hl
  exact ⟨b, o, c, e, Nat.lt_of_lt_of_le hlt hb.size, hcap, fun i hi => by rw [hb.cell (p := ⟨b, o + i, none⟩) (Nat.lt_of_lt_of_le hlt hB)]; exact hc i hi⟩
def intsV (l : List Int) : List Value := l.map fun x => .int .i64 x
theorem intsV_append (a b : List Int) : intsV (a ++ b) = intsV a ++ intsV b := by simp [intsV]
theorem Is.of_own {w : World} {base : Nat} {v : Value} {l : List Int} (h : w.ownsRow base 3 1 v l.length (intsV l)) : Is w v l := by
  refine ⟨own_slice h, fun hl => ?_⟩
  rcases h.2 with ⟨_, h0⟩ | ⟨g, cap, cur, hv, hb, hr, hc, hm, hs, ht⟩
  · exact absurd (List.length_eq_zero_iff.1 h0) hl
  · subst hv
    refine ⟨g, 0, cap, rfl, (h.lt g rfl).2, hc, fun i hi => ?_⟩
    rw [Nat.zero_add, h.cellAt i (by omega)]
    simp [intsV, List.getD, hi]
def cfI (c : Fin 13 → Int) : List Int := [c 0, c 1, c 2, c 3, c 4, c 5, c 6, c 7, c 8, c 9, c 10, c 11, c 12]
theorem cfI_eq (c : Fin 13 → Int) : cfI c = fins.map c := rfl
set_option maxRecDepth 100000 in
set_option maxHeartbeats 4000000 in
theorem rnumbers29 (c : Fin 13 → Int) (w : World) : Calls Tryd.prog 35 #[.agg (cfA c)] w fun e w' => ∃ v, e = .returned v ∧ Is w' v (cfI c) ∧ Below w.heap.size w w' := by
  have hw1 : ((w.alloc (.cells (cfA c) 23)).alloc (.cells (cfA c) 3)).heap[w.heap.size + 1]? = some (.cells (cfA c) 3 (0, 0)) := by
    have := heap_alloc_new (w.alloc (.cells (cfA c) 23)) (.cells (cfA c) 3)
    rwa [World.size_alloc] at this
  have HI : Hid (Is ((w.alloc (.cells (cfA c) 23)).alloc (.cells (cfA c) 3)) (.slice (some ⟨w.heap.size + 1, 0, none⟩) 13 13) (cfI c)) := Lib.hid ⟨⟨_, _, rfl⟩, fun _ => ⟨w.heap.size + 1, 0, 13, rfl, by simp, Nat.le_refl _, fun i hi => by
    rw [Nat.zero_add, cell_of_row _ _ i _ 3 _ hw1]
    have hi' : i < 13 := hi
    match i, hi' with
    | 0, _ => rfl
    | 1, _ => rfl
    | 2, _ => rfl
    | 3, _ => rfl
    | 4, _ => rfl
    | 5, _ => rfl
    | 6, _ => rfl
    | 7, _ => rfl
    | 8, _ => rfl
    | 9, _ => rfl
    | 10, _ => rfl
    | 11, _ => rfl
    | 12, _ => rfl
    | i + 13, h => omega⟩⟩
  have HB : Hid (Below w.heap.size w ((w.alloc (.cells (cfA c) 23)).alloc (.cells (cfA c) 3))) := Lib.hid (((Below.refl _ _).alloc (Nat.le_refl _) _).alloc (by simp) _)
  clear hw1
  go_enter Tryd.func35, Tryd.ntmps35
  go_wp2
  go_ret
  exact ⟨_, rfl, HI.out, HB.out⟩
def fitB (l : List Int) : Bool := l.all fun x => decide (0 ≤ x) && decide (x ≤ 2147483647)
theorem fit_small (c : Fin 13 → Int) : fitB (cfI c) = smallB c := by
  rw [Bool.eq_iff_iff, fitB, List.all_eq_true, smallB, Bool.not_eq_true', List.any_eq_false, cfI_eq]
  constructor
  · intro h i hi
    have := h (c i) (List.mem_map_of_mem hi)
    simp only [Bool.and_eq_true, decide_eq_true_eq] at this ⊢
    omega
  · intro h x hx
    obtain ⟨i, hi, rfl⟩ := List.mem_map.1 hx
    have := h i hi
    simp only [Bool.and_eq_true, decide_eq_true_eq] at this ⊢
    omega
set_option maxRecDepth 100000 in
set_option maxHeartbeats 400000 in
theorem rfit28 (v : Value) (l : List Int) (hl : l.length ≤ 1000000) (w : World) (h : Is w v l) : Calls Tryd.prog 34 #[v] w fun e w' => e = .returned (.bool (fitB l)) ∧ w' = w := by
  obtain ⟨A, cp, rfl⟩ := h.1
  have HI := Lib.hid h
  clear h
  go_enter Tryd.func34, Tryd.ntmps34
  go_wp2_with fail
  go_loopg [3] l.length (fun gk i wr => ∃ k : Nat, k ≤ l.length ∧ gk = l.length - k ∧ i = .int .i64 k ∧ fitB l = fitB (l.drop k) ∧ wr = w)
  case atStart => exact ⟨0, Nat.zero_le _, rfl, rfl, rfl, rfl⟩
  case round =>
    obtain ⟨k, hk, hgk, rfl, hf, rfl⟩ := hrel
    have HK := Lib.hid hgk
    have HF := Lib.hid hf
    clear hgk hf
    by_cases hkl : k < l.length
    · obtain ⟨b, o, c', e, hlt, _, hc⟩ := HI.out.2 (by intro e; subst e; simp at hkl)
      injection e with e1 e2 e3
      subst e1
      subst e3
      have h1 : (k : Int) < (l.length : Int) := by omega
      have hcell := hc k hkl
      have HD : Hid (l.drop k = l.getD k 0 :: l.drop (k + 1)) := Lib.hid (by rw [List.drop_eq_getElem_cons hkl]; simp [List.getD, hkl])
      generalize l.getD k 0 = x at *
      clear hc e2
      by_cases x0 : x < 0
      · have HR : Hid (fitB l = false) := Lib.hid (by rw [HF.out, HD.out]; simp [fitB]; intro h; omega)
        have d0 : decide (x < 0) = true := by simpa using x0
        clear x0
        go_wp2
        go_ret
        exact ⟨by rw [HR.out]; rfl, rfl⟩
      · have d0 : decide (x < 0) = false := by simpa using x0
        by_cases x1 : (2147483647 : Int) < x
        · have HR : Hid (fitB l = false) := Lib.hid (by rw [HF.out, HD.out]; simp [fitB]; intro h h'; omega)
          have d1 : decide ((2147483647 : Int) < x) = true := by simpa using x1
          clear x0 x1
          go_wp2
          go_ret
          exact ⟨by rw [HR.out]; rfl, rfl⟩
        · have HR : Hid (fitB l = fitB (l.drop (k + 1))) := Lib.hid (by rw [HF.out, HD.out, fitB, List.all_cons, show decide (0 ≤ x) = true by simp; omega, show decide (x ≤ 2147483647) = true by simp; omega]; rfl)
          have d1 : decide ((2147483647 : Int) < x) = false := by simpa using x1
          clear x0 x1
          go_wp2
          go_roundg (l.length - (k + 1))
          case measure => rw [HK.out]; omega
          case rel => exact ⟨k + 1, by omega, rfl, by go_num, HR.out, rfl⟩
    · obtain rfl : k = l.length := by omega
      go_wp2
      go_ret
      exact ⟨by rw [HF.out, List.drop_length]; rfl, rfl⟩
def allL (l : List Int) : List UInt8 := l.flatMap fun x => 32 :: digs x.toNat
theorem allL_len (l : List Int) (h : ∀ x ∈ l, x ≤ 2147483647) : (allL l).length ≤ l.length * 11 := by
  induction l with
  | nil => simp [allL]
  | cons a r ih =>
    have h1 := ih (fun x hx => h x (by simp [hx]))
    have h2 := digs_len10 a.toNat (by have := h a (by simp); omega)
    have : allL (a :: r) = 32 :: digs a.toNat ++ allL r := rfl
    rw [this]
    simp
    omega
theorem allL_join : ∀ (l : List Int), l ≠ [] → allL l = 32 :: joinL (l.map fun x => digs x.toNat)
  | [], h => absurd rfl h
  | [a], _ => by simp [allL, joinL, List.intercalate]
  | a :: b :: r, _ => by
    have ih := allL_join (b :: r) (by simp)
    have : allL (a :: b :: r) = 32 :: digs a.toNat ++ allL (b :: r) := rfl
    rw [this, ih]
    simp [joinL, List.intercalate]
theorem all_set (c : Fin 13 → Int) : allL (cfI c) = 32 :: joinL (setL c) := allL_join (cfI c) (by simp [cfI])
theorem rnumber41i (x : Int) (h0 : 0 ≤ x) (h1 : x ≤ 2147483647) (w : World) : Calls Tryd.prog 62 #[.int .i64 x] w fun e w' => e = .returned (.string (str (digs x.toNat))) ∧ Below w.heap.size w w' := by
  have := rnumber41 x.toNat (by omega) w
  rwa [Int.toNat_of_nonneg h0] at this
set_option maxRecDepth 100000 in
set_option maxHeartbeats 400000 in
theorem rall43 (v : Value) (l : List Int) (hl : l.length ≤ 1000) (hx : ∀ x ∈ l, 0 ≤ x ∧ x ≤ 2147483647) (w : World) (h : Is w v l) : Calls Tryd.prog 45 #[v] w fun e w' => e = .returned (.string (str (allL l))) ∧ Below w.heap.size w w' := by
  obtain ⟨A, cp, rfl⟩ := h.1
  have HI := Lib.hid h
  have HX := Lib.hid hx
  have HLEN : Hid (∀ k, (allL (l.take k)).length ≤ 100000) := Lib.hid (fun k => by
    have := allL_len (l.take k) (fun x hq => (hx x (List.mem_of_mem_take hq)).2)
    rw [List.length_take] at this
    omega)
  clear h hx
  go_enter Tryd.func45, Tryd.ntmps45
  go_wp2_with fail
  go_loopg [3, 4] l.length (fun gk s i wr => ∃ k : Nat, k ≤ l.length ∧ gk = l.length - k ∧ i = .int .i64 k ∧ s = .string (str (allL (l.take k))) ∧ Below w.heap.size w wr)
  case atStart => exact ⟨0, Nat.zero_le _, rfl, rfl, rfl, Below.refl _ _⟩
  case round =>
    obtain ⟨k, hk, hgk, rfl, rfl, hb⟩ := hrel
    have HK := Lib.hid hgk
    have HB := Lib.hid hb
    clear hgk hb
    by_cases hkl : k < l.length
    · obtain ⟨b, o, c', e, hlt, _, hc⟩ := (HI.out.below (Nat.le_refl _) HB.out).2 (by intro e; subst e; simp at hkl)
      injection e with e1 e2 e3
      subst e1
      subst e3
      have h1 : (k : Int) < (l.length : Int) := by omega
      have hcell := hc k hkl
      have hm := HX.out (l.getD k 0) (by simp [List.getD, hkl])
      have HT : Hid (allL (l.take (k + 1)) = allL (l.take k) ++ 32 :: digs (l.getD k 0).toNat) := Lib.hid (by
        have e : l.getD k 0 = l[k] := by simp [List.getD, hkl]
        rw [e, List.take_succ_eq_append_getElem hkl, allL, allL, List.flatMap_append]
        congr 1
        simp)
      have hd := digs_len10 (l.getD k 0).toNat (by omega)
      have hl0 := HLEN.out k
      generalize l.getD k 0 = x at *
      generalize allL (l.take k) = acc at *
      have HC := Lib.hid (rnumber41i x hm.1 hm.2 wr)
      have hs1 := size_ok acc [32] (by simp; omega)
      have hs2 := size_ok (acc ++ [32]) (digs x.toNat) (by simp; omega)
      have hq : str acc ++ (⟨#[32]⟩ : ByteArray) = str (acc ++ [32]) := str_append acc [32]
      clear hc e2 hm hd hl0
      go_wp2_with fail
      refine Calls.mono HC.out ?_
      rintro e w1 ⟨rfl, hb1⟩
      go_wp2
      go_roundg (l.length - (k + 1))
      case measure => rw [HK.out]; omega
      case rel => exact ⟨k + 1, by omega, rfl, by go_num, by rw [HT.out, str_append]; simp, HB.out.trans (hb1.mono HB.out.size)⟩
    · obtain rfl : k = l.length := by omega
      have HE : Hid (allL (l.take l.length) = allL l) := Lib.hid (by rw [List.take_length])
      go_wp2
      go_ret
      exact ⟨by rw [← HE.out]; rfl, HB.out⟩
end Go.Proofs.YtjakkmioofbcaaaDoor
