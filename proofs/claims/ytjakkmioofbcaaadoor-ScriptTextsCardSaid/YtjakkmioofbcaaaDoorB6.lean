/- The walk over settings. -/
import Derived.Test.YtjakkmioofbcaaaDoorB4
import Derived.Test.YtjakkmioofbcaaaDoorB5
import Derived.Test.YtjakkmioofbcaaaDoorAB
namespace Go.Proofs.YtjakkmioofbcaaaDoor
open Go.RowKit
theorem number44i (x : Int) (h0 : 0 ≤ x) (h1 : x ≤ 2147483647) (w : World) : Calls Tryd.prog 54 #[.int .i64 x] w fun e w' => e = .returned (.string (str (digs x.toNat))) ∧ w' = w := by
  have := number44 x.toNat (by omega) w
  rwa [Int.toNat_of_nonneg h0] at this
def setL (c : Fin 13 → Int) : List (List UInt8) := fins.map fun i => digs (c i).toNat
def joinL (l : List (List UInt8)) : List UInt8 := [32].intercalate l
theorem setL_len (c : Fin 13 → Int) : (setL c).length = 13 := rfl
theorem setL_get (c : Fin 13 → Int) (i : Fin 13) : (setL c)[i.1]? = some (digs (c i).toNat) := by
  match i with
  | 0 => rfl
  | 1 => rfl
  | 2 => rfl
  | 3 => rfl
  | 4 => rfl
  | 5 => rfl
  | 6 => rfl
  | 7 => rfl
  | 8 => rfl
  | 9 => rfl
  | 10 => rfl
  | 11 => rfl
  | 12 => rfl
theorem pt_cell2 {w : World} {g b : Nat} {fz : Nat × Nat} (h : w.heap[g]? = some (.cells (ptA b 0) 96 fz)) : ∀ i : Fin 13, w.cell? ⟨g, i.1, none⟩ = some (.pointer (some ⟨b, i.1, none⟩)) := by
  intro i
  have := pt_cell h
  match i with
  | 0 => exact this 0 (by decide)
  | 1 => exact this 1 (by decide)
  | 2 => exact this 2 (by decide)
  | 3 => exact this 3 (by decide)
  | 4 => exact this 4 (by decide)
  | 5 => exact this 5 (by decide)
  | 6 => exact this 6 (by decide)
  | 7 => exact this 7 (by decide)
  | 8 => exact this 8 (by decide)
  | 9 => exact this 9 (by decide)
  | 10 => exact this 10 (by decide)
  | 11 => exact this 11 (by decide)
  | 12 => exact this 12 (by decide)
theorem digs_len10 (n : Nat) (h : n < 10000000000) : (digs n).length ≤ 10 := by
  have key : ∀ (d n : Nat), n < 10 ^ (d + 1) → (digs n).length ≤ d + 1 := by
    intro d
    induction d with
    | zero => intro n hn; rw [digs_small (by omega)]; simp
    | succ d ih =>
      intro n hn
      by_cases h : n < 10
      · rw [digs_small h]; simp
      · rw [digs_big h, List.length_append]
        have := ih (n / 10) (by rw [Nat.pow_succ] at hn; omega)
        simp
        omega
  exact key 9 n h
theorem joinL_len (l : List (List UInt8)) (k : Nat) (h : ∀ x ∈ l, x.length ≤ k) : (joinL l).length ≤ l.length * (k + 1) := by
  unfold joinL
  induction l with
  | nil => simp [List.intercalate]
  | cons a r ih =>
    have h1 := h a (by simp)
    have h2 := ih (fun x hx => h x (by simp [hx]))
    rw [List.length_cons, Nat.succ_mul]
    cases r with
    | nil => simp [List.intercalate]; omega
    | cons b t =>
      have e : [32].intercalate (a :: b :: t) = a ++ (32 :: [32].intercalate (b :: t)) := by simp [List.intercalate, List.intersperse]
      rw [e, List.length_append, List.length_cons]
      omega
theorem setL_small (c : Fin 13 → Int) (hc : ∀ i, 0 ≤ c i ∧ c i ≤ 2147483647) : (joinL (setL c)).length ≤ 143 := by
  refine Nat.le_trans (joinL_len (setL c) 10 ?_) (by rw [setL_len]; decide)
  intro x hx
  simp only [setL, List.mem_map] at hx
  obtain ⟨i, _, rfl⟩ := hx
  have := hc i
  exact digs_len10 _ (by omega)
/-- words in memory -/
def Ws (w : World) (v : Value) (l : List (List UInt8)) : Prop :=
  (∃ A c, v = .slice A l.length c) ∧ (l ≠ [] → ∃ b o c, v = .slice (some ⟨b, o, none⟩) l.length c ∧ b < w.heap.size ∧ l.length ≤ c ∧ ∀ i, i < l.length → w.cell? ⟨b, o + i, none⟩ = some (.string (str (l.getD i []))))
theorem Ws.below {B : Nat} {w w' : World} {v : Value} {l : List (List UInt8)} (h : Ws w v l) (hB : w.heap.size ≤ B) (hb : Below B w w') : Ws w' v l := by
  refine ⟨h.1, fun hl => ?_⟩
  obtain ⟨b, o, c, e, hlt, hcap, hc⟩ := h.2 hl
  exact ⟨b, o, c, e, Nat.lt_of_lt_of_le hlt hb.size, hcap, fun i hi => by rw [hb.cell (p := ⟨b, o + i, none⟩) (Nat.lt_of_lt_of_le hlt hB)]; exact hc i hi⟩
theorem Ws.of_own {w : World} {base : Nat} {v : Value} {l : List (List UInt8)} (h : w.ownsRow base 9 1 v l.length (strsV l)) : Ws w v l := by
  refine ⟨own_slice h, fun hl => ?_⟩
  rcases h.2 with ⟨_, h0⟩ | ⟨g, cap, cur, hv, hb, hr, hc, hm, hs, ht⟩
  · exact absurd (List.length_eq_zero_iff.1 h0) hl
  · subst hv
    refine ⟨g, 0, cap, rfl, (h.lt g rfl).2, hc, fun i hi => ?_⟩
    rw [Nat.zero_add, h.cellAt i (by omega)]
    simp [strsV, List.getD, hi]
theorem join55 (v : Value) (l : List (List UInt8)) (w : World) (h : Ws w v l) (hn : l.length ≤ 1000000) (hj : (joinL l).length ≤ 1000000) : Calls Tryd.prog 74 #[v, .string ⟨#[32]⟩] w fun e w' => e = .returned (.string (str (joinL l))) ∧ Below w.heap.size w w' := by
  by_cases h0 : l = []
  · subst h0
    obtain ⟨A, c, rfl⟩ := h.1
    exact (Tryd.strings_Join_none A c ⟨#[32]⟩ w).mono fun e w' ⟨h1, h2⟩ => ⟨h1, by rw [h2]; exact Below.refl _ _⟩
  · obtain ⟨b, o, c, rfl, hlt, hcap, hc⟩ := h.2 h0
    have e : (l.map str).map (fun s => s.data.toList) = l := by
      rw [List.map_map]
      exact (List.map_congr_left (fun b _ => rfl)).trans (List.map_id l)
    have hq := Tryd.strings_Join b o c (l.map str) ⟨#[32]⟩ w (fun j x hx => by
      simp only [List.getElem?_map, Option.map_eq_some_iff] at hx
      obtain ⟨y, hy, rfl⟩ := hx
      have hjl : j < l.length := (List.getElem?_eq_some_iff.1 hy).1
      rw [hc j hjl]
      simp [List.getD, hy]) hlt (by rw [List.length_map]; omega) (by rw [List.length_map]; exact hcap) (by rw [e]; exact Nat.le_trans hj (by omega))
    rw [e, List.length_map] at hq
    exact hq
set_option maxRecDepth 100000 in
set_option maxHeartbeats 4000000 in
theorem settings45 (c : Fin 13 → Int) (hc : ∀ i, 0 ≤ c i ∧ c i ≤ 2147483647) (w : World) : Calls Tryd.prog 55 #[.agg (cfA c)] w fun e w' => e = .returned (.string (str (joinL (setL c)))) ∧ Below w.heap.size w w' := by
  obtain ⟨i0, hi, hz0, hz1, hz2⟩ := info_parts info9
  have I0 := Lib.hid hi
  have Z0 := Lib.hid hz0
  have S0 := Lib.hid hz1
  have Y0 := Lib.hid hz2
  clear hi hz0 hz1 hz2
  have HC := Lib.hid hc
  have HB0 := Lib.hid (bdrew (((Below.refl w.heap.size w).alloc (Nat.le_refl _) (.cells (cfA c) 23)).alloc (by simp) (.cells (ptA w.heap.size 0) 96)))
  have hw1 : (((w.alloc (.cells (cfA c) 23)).alloc (.cells (ptA w.heap.size 0) 96)).drew).heap[w.heap.size + 1]? = some (.cells (ptA w.heap.size 0) 96 (0, 0)) := by
    have := heap_alloc_new (w.alloc (.cells (cfA c) 23)) (.cells (ptA w.heap.size 0) 96)
    rwa [World.size_alloc] at this
  have hw0 : (((w.alloc (.cells (cfA c) 23)).alloc (.cells (ptA w.heap.size 0) 96)).drew).heap[w.heap.size]? = some (.cells (cfA c) 23 (0, 0)) :=
    (Below.heap_alloc _ _ _ (by simp)).trans (heap_alloc_new w (.cells (cfA c) 23))
  have HW1 := Lib.hid hw1
  have HW0 := Lib.hid hw0
  have HSZ : Hid ((((w.alloc (.cells (cfA c) 23)).alloc (.cells (ptA w.heap.size 0) 96)).drew).heap.size = w.heap.size + 2) := Lib.hid (by simp)
  clear hc hw0 hw1
  go_enter Tryd.func55, Tryd.ntmps55
  go_wp2_with fail
  refine Calls.mono (numbers48 _ _) ?_
  rintro e w1 ⟨rfl, rfl⟩
  go_wp2_with fail
  generalize hW2 : ((w.alloc (.cells (cfA c) 23)).alloc (.cells (ptA w.heap.size 0) 96)).drew = w2 at *
  clear hW2
  go_loopg [3, 8] 13 (fun gk v i wr => ∃ k : Nat, k ≤ 13 ∧ gk = 13 - k ∧ i = .int .i64 k ∧ wr.ownsRow (w.heap.size + 2) 9 1 v k (strsV ((setL c).take k)) ∧ Below (w.heap.size + 2) w2 wr)
  case atStart => exact ⟨0, Nat.zero_le _, rfl, rfl, World.ownsRow_nil _ _ _ _, Below.refl _ _⟩
  case round =>
    obtain ⟨k, hk, hgk, rfl, hr, hb⟩ := hrel
    obtain ⟨AA, ac, hv⟩ := own_slice hr
    subst hv
    have HK := Lib.hid hgk
    have HR := Lib.hid hr
    have HB := Lib.hid hb
    have hp1 := (hb.block (w.heap.size + 1) (by omega)).trans HW1.out
    have hp0 := (hb.block w.heap.size (by omega)).trans HW0.out
    have HSO : Hid (w.heap.size + 2 ≤ wr.heap.size) := Lib.hid (by have := hb.size; rw [HSZ.out] at this; exact this)
    clear hgk hr hb
    by_cases hkl : k < 13
    · have q1 := pt_cell2 hp1 ⟨k, hkl⟩
      have q0 := cf_cell hp0 ⟨k, hkl⟩
      have h1 : (k : Int) < 13 := by omega
      have HG := Lib.hid (setL_get c ⟨k, hkl⟩)
      have HN := Lib.hid (number44i (c ⟨k, hkl⟩) (HC.out _).1 (HC.out _).2)
      generalize c ⟨k, hkl⟩ = x at *
      clear hp1 hp0
      simp only at q1 q0
      go_wp2_with fail
      refine Calls.mono (HN.out _) ?_
      rintro e w3 ⟨rfl, rfl⟩
      go_wp2_with (first
        | (at_builtin; refine wpList_append_own _ rfl (.tmp 12) (.tmp 17) _ rfl (w.heap.size + 2) 9 i0 _ 1 16 Tryd.underlying52 I0.out Z0.out S0.out Y0.out rfl (by decide) _ _ _ rfl (HR.out.alloc _) _ 1 1 [.string (str (digs x.toNat))] rfl rfl (new1 _ _ _ _ rfl) (by simp [Value.oneCell']) (by unfold maxLen; omega) (by omega) (Nat.le_trans HSO.out (by simp)) ?_))
      intro v' w4 hown' hgrow _
      obtain ⟨A3, ac3, hv3⟩ := own_slice hown'
      subst hv3
      go_wp2
      go_roundg (13 - (k + 1))
      case measure => rw [HK.out]; omega
      case rel =>
        refine ⟨k + 1, by omega, rfl, by go_num, ?_, (HB.out.alloc (Nat.le_trans (Nat.le_of_eq HSZ.out.symm) HB.out.size) _).grown hgrow (Nat.le_trans HSO.out (by simp)) (fun j e => (HR.out.lt j e).1)⟩
        rw [List.take_add_one, HG.out, strsV_append]
        exact hown'
    · obtain rfl : k = 13 := by omega
      have hfull : ((setL c).take 13) = setL c := List.take_of_length_le (Nat.le_refl 13)
      have hr := HR.out
      rw [hfull] at hr
      have HJ := Lib.hid (join55 _ (setL c) wr (Ws.of_own hr) (by rw [setL_len]; omega) (Nat.le_trans (setL_small c HC.out) (by omega)))
      clear hr hfull hp1 hp0
      go_wp2_with fail
      refine Calls.mono HJ.out ?_
      rintro e w3 ⟨rfl, hb3⟩
      go_wp2
      go_ret
      exact ⟨rfl, HB0.out.trans ((HB.out.trans (hb3.mono HSO.out)).mono (by omega))⟩
end Go.Proofs.YtjakkmioofbcaaaDoor
