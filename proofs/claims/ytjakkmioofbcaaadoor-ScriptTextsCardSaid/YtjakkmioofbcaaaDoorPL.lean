/- The plain law of steps and lines: what is read is what was written. -/
import Derived.Test.YtjakkmioofbcaaaDoorE5
namespace Go.Proofs.YtjakkmioofbcaaaDoor
open Go.RowKit
theorem small_c0 : smallB c0 = true := by
  unfold smallB
  rw [Bool.not_eq_true', List.any_eq_false]
  intro i _
  simp [c0]
theorem call0_iff (op : Int) (nm dt : List UInt8) : call0 op nm dt = true ↔ op = 0 ∧ nm = [] ∧ dt = [] := by unfold call0; simp
theorem fuse_len (n : Int) (h : n ≤ 9999) : (fuseW ++ 32 :: digs n.toNat).length ≤ 65536 := by
  have := digs_len10 n.toNat (by omega)
  simp [fuseW]
  omega
theorem conf_len (c : Fin 13 → Int) (h : smallB c = true) : (confW ++ 32 :: joinL (setL c)).length ≤ 65536 := by
  have := setL_small c (small_spec h)
  simp [confW]
  omega
theorem truGo_len (l : List Bool) : (truGo l).length = l.length := by simp [truGo]
theorem tru_ge (l : List Bool) : l.length ≤ (tru l).length := by
  unfold tru
  split
  · rename_i h; subst h; simp
  · rw [truGo_len]; exact Nat.le_refl _
theorem may_eq (s : St) : mayR s = mayB s := by
  obtain ⟨k, op, nm, dt, n, kp, c⟩ := s
  rw [Bool.eq_iff_iff]
  by_cases k1 : k = 1
  · subst k1
    simp only [mayR, mayB, justB, onlyS, sameB, rcallB, if_true, Bool.and_eq_true, decide_eq_true_eq, Bool.or_eq_true, ne_eq, not_true_eq_false, false_or]
    constructor
    · rintro ⟨⟨⟨⟨⟨⟨_, _⟩, rfl⟩, rfl⟩, rfl⟩, ⟨hc, h1⟩, h2⟩, h3⟩
      exact ⟨⟨⟨⟨⟨⟨⟨⟨⟨⟨rfl, rfl⟩, rfl⟩, by omega⟩, by omega⟩, small_c0⟩, hc⟩, h1⟩, h2⟩, by simp⟩, h3⟩
    · rintro ⟨⟨⟨⟨⟨⟨⟨⟨⟨⟨rfl, rfl⟩, rfl⟩, _⟩, _⟩, _⟩, hc⟩, h1⟩, h2⟩, _⟩, h3⟩
      exact ⟨⟨⟨⟨⟨⟨trivial, by simp⟩, rfl⟩, rfl⟩, rfl⟩, ⟨hc, h1⟩, h2⟩, h3⟩
  · by_cases k2 : k = 2
    · subst k2
      have hl : lineL ⟨2, op, nm, dt, n, kp, c⟩ = fuseW ++ 32 :: digs n.toNat := rfl
      have hj : justB ⟨2, op, nm, dt, n, kp, c⟩ = (call0 op nm dt && decide (kp = []) && decide (c = c0)) := rfl
      have hr : mayR ⟨2, op, nm, dt, n, kp, c⟩ = (sameB ⟨2, 0, [], [], n, [], c0⟩ ⟨2, op, nm, dt, n, kp, c⟩ && decide (0 ≤ n) && decide (n ≤ 9999)) := rfl
      rw [hr, Bool.and_eq_true, Bool.and_eq_true, sameB_iff, decide_eq_true_eq, decide_eq_true_eq]
      simp only [mayB, hj, hl, Bool.and_eq_true, decide_eq_true_eq, Bool.or_eq_true, call0_iff]
      constructor
      · rintro ⟨⟨h, h1⟩, h2⟩
        injection h with _ e1 e2 e3 _ e5 e6
        subst e1 e2 e3 e5 e6
        exact ⟨⟨⟨⟨⟨⟨⟨⟨⟨⟨⟨rfl, rfl, rfl⟩, rfl⟩, rfl⟩, h1⟩, h2⟩, small_c0⟩, .inl (by decide)⟩, by simp⟩, by simp⟩, by simp⟩, fuse_len n h2⟩
      · rintro ⟨⟨⟨⟨⟨⟨⟨⟨⟨⟨⟨rfl, rfl, rfl⟩, rfl⟩, rfl⟩, h1⟩, h2⟩, _⟩, _⟩, _⟩, _⟩, _⟩, _⟩
        exact ⟨⟨rfl, h1⟩, h2⟩
    · by_cases k3 : k = 3
      · subst k3
        have hl : lineL ⟨3, op, nm, dt, n, kp, c⟩ = powerW ++ 32 :: tru kp := rfl
        have hj : justB ⟨3, op, nm, dt, n, kp, c⟩ = (call0 op nm dt && decide (n = 0) && decide (c = c0)) := rfl
        have hr : mayR ⟨3, op, nm, dt, n, kp, c⟩ = (sameB ⟨3, 0, [], [], 0, kp, c0⟩ ⟨3, op, nm, dt, n, kp, c⟩ && decide ((lineL ⟨3, op, nm, dt, n, kp, c⟩).length ≤ 65536)) := rfl
        rw [hr, Bool.and_eq_true, sameB_iff, decide_eq_true_eq, hl]
        simp only [mayB, hj, hl, Bool.and_eq_true, decide_eq_true_eq, Bool.or_eq_true, call0_iff]
        constructor
        · rintro ⟨h, h1⟩
          injection h with _ e1 e2 e3 e4 _ e6
          subst e1 e2 e3 e4 e6
          have hk := tru_ge kp
          have hk2 : kp.length ≤ 65536 := by simp at h1; omega
          exact ⟨⟨⟨⟨⟨⟨⟨⟨⟨⟨⟨rfl, rfl, rfl⟩, rfl⟩, rfl⟩, by omega⟩, by omega⟩, small_c0⟩, .inl (by decide)⟩, by simp⟩, by simp⟩, hk2⟩, h1⟩
        · rintro ⟨⟨⟨⟨⟨⟨⟨⟨⟨⟨⟨rfl, rfl, rfl⟩, rfl⟩, rfl⟩, _⟩, _⟩, _⟩, _⟩, _⟩, _⟩, _⟩, h1⟩
          exact ⟨rfl, h1⟩
      · by_cases k4 : k = 4
        · subst k4
          have hl : lineL ⟨4, op, nm, dt, n, kp, c⟩ = confW ++ 32 :: joinL (setL c) := rfl
          have hj : justB ⟨4, op, nm, dt, n, kp, c⟩ = (call0 op nm dt && decide (n = 0) && decide (kp = [])) := rfl
          have hr : mayR ⟨4, op, nm, dt, n, kp, c⟩ = (sameB ⟨4, 0, [], [], 0, [], c⟩ ⟨4, op, nm, dt, n, kp, c⟩ && fitB (cfI c)) := rfl
          rw [hr, Bool.and_eq_true, sameB_iff, fit_small]
          simp only [mayB, hj, hl, Bool.and_eq_true, decide_eq_true_eq, Bool.or_eq_true, call0_iff]
          constructor
          · rintro ⟨h, h1⟩
            injection h with _ e1 e2 e3 e4 e5 _
            subst e1 e2 e3 e4 e5
            exact ⟨⟨⟨⟨⟨⟨⟨⟨⟨⟨⟨rfl, rfl, rfl⟩, rfl⟩, rfl⟩, by omega⟩, by omega⟩, h1⟩, .inl (by decide)⟩, by simp⟩, by simp⟩, by simp⟩, conf_len c h1⟩
          · rintro ⟨⟨⟨⟨⟨⟨⟨⟨⟨⟨⟨rfl, rfl, rfl⟩, rfl⟩, rfl⟩, _⟩, _⟩, h1⟩, _⟩, _⟩, _⟩, _⟩, _⟩
            exact ⟨rfl, h1⟩
        · have h1 : mayR ⟨k, op, nm, dt, n, kp, c⟩ = false := by simp only [mayR, k1, k2, k3, k4, if_false]
          have h2 : justB ⟨k, op, nm, dt, n, kp, c⟩ = false := by simp only [justB, k1, k2, k3, k4, if_false]
          rw [h1]
          simp [mayB, h2]
end Go.Proofs.YtjakkmioofbcaaaDoor
namespace Go.Proofs.YtjakkmioofbcaaaDoor
open Go.RowKit
theorem joinL_cons (a : List UInt8) (l : List (List UInt8)) (h : l ≠ []) : joinL (a :: l) = a ++ 32 :: joinL l := by
  cases l with
  | nil => exact absurd rfl h
  | cons b r => simp [joinL, List.intercalate, List.intersperse]
theorem joinL_one (a : List UInt8) : joinL [a] = a := by simp [joinL, List.intercalate]
theorem join_split (l : List UInt8) : joinL (splitL 32 l) = l := by
  induction l with
  | nil => rfl
  | cons c r ih =>
    rw [splitL]
    split
    · rename_i h
      subst h
      rw [joinL_cons _ _ (splitL_ne 32 r), ih]
      rfl
    · split
      · rename_i h; exact absurd h (splitL_ne 32 r)
      · rename_i h t heq
        rw [heq] at ih
        cases t with
        | nil => rw [joinL_one] at ih ⊢; rw [ih]
        | cons b q =>
          rw [joinL_cons _ _ (by simp)] at ih ⊢
          rw [← ih]
          rfl
theorem split_join : ∀ (ws : List (List UInt8)), ws ≠ [] → (∀ x ∈ ws, (32 : UInt8) ∉ x) → splitL 32 (joinL ws) = ws
  | [], h, _ => absurd rfl h
  | [a], _, hn => by rw [joinL_one, splitL_noSep (hn a (by simp))]
  | a :: b :: r, _, hn => by
    rw [joinL_cons _ _ (by simp), splitL_app (hn a (by simp)), split_join (b :: r) (by simp) (fun x hx => hn x (by simp [hx]))]
theorem ofNat_digit (n : Nat) (h : n < 10) : (UInt8.ofNat (48 + n)).toNat = 48 + n := by simp; omega
theorem digs_byte (n : Nat) : ∀ x ∈ digs n, 48 ≤ x.toNat ∧ x.toNat ≤ 57 := by
  induction n using Nat.strongRecOn with
  | _ n ih =>
    intro x hx
    by_cases h : n < 10
    · rw [digs_small h, List.mem_singleton] at hx
      subst hx
      rw [ofNat_digit n h]
      omega
    · rw [digs_big h, List.mem_append, List.mem_singleton] at hx
      rcases hx with hx | rfl
      · exact ih (n / 10) (by omega) x hx
      · rw [ofNat_digit (n % 10) (by omega)]
        omega
theorem digs_no32 (n : Nat) : (32 : UInt8) ∉ digs n := fun h => by
  have := digs_byte n 32 h
  have e : (32 : UInt8).toNat = 32 := rfl
  omega
theorem digs_ne (n : Nat) : digs n ≠ [] := by
  by_cases h : n < 10
  · rw [digs_small h]; simp
  · rw [digs_big h]; simp
end Go.Proofs.YtjakkmioofbcaaaDoor
namespace Go.Proofs.YtjakkmioofbcaaaDoor
open Go.RowKit
theorem cntGo_app (a b : List UInt8) (n : Nat) : cntGo (a ++ b) n = (cntGo a n).bind (cntGo b) := by
  induction a generalizing n with
  | nil => rfl
  | cons c r ih =>
    rw [List.cons_append, cntGo, cntGo]
    split
    · rfl
    · split
      · rfl
      · exact ih _
theorem cntGo_digs (m : Nat) (h : m ≤ 2147483647) : cntGo (digs m) 0 = some m := by
  induction m using Nat.strongRecOn with
  | _ m ih =>
    by_cases h10 : m < 10
    · rw [digs_small h10, cntGo, ofNat_digit m h10, if_neg (by omega), if_neg (by omega), cntGo]
      congr 1
      omega
    · rw [digs_big h10, cntGo_app, ih (m / 10) (by omega) (by omega), Option.bind_some, cntGo, ofNat_digit (m % 10) (by omega), if_neg (by omega), if_neg (by omega), cntGo]
      congr 1
      omega
theorem digs_head (m : Nat) (h : 0 < m) : (digs m).head? ≠ some 48 := by
  induction m using Nat.strongRecOn with
  | _ m ih =>
    by_cases h10 : m < 10
    · rw [digs_small h10]
      simp only [List.head?_cons, ne_eq, Option.some.injEq]
      intro e
      have := congrArg UInt8.toNat e
      rw [ofNat_digit m h10] at this
      have e2 : (48 : UInt8).toNat = 48 := rfl
      omega
    · rw [digs_big h10]
      have h1 := ih (m / 10) (by omega) (by omega)
      have h2 := digs_ne (m / 10)
      cases hd : digs (m / 10) with
      | nil => exact absurd hd h2
      | cons a r => rw [hd] at h1; simpa using h1
theorem cnt_digs (m : Nat) (h : m ≤ 2147483647) : cnt (digs m) = (m, true) := by
  unfold cnt
  rw [cntGo_digs m h]
  simp only [Prod.mk.injEq, decide_eq_true_eq, true_and]
  refine ⟨digs_ne m, ?_⟩
  by_cases h0 : 0 < m
  · exact .inl (digs_head m h0)
  · obtain rfl : m = 0 := by omega
    exact .inr (by rw [digs_small (by omega)]; rfl)
end Go.Proofs.YtjakkmioofbcaaaDoor
namespace Go.Proofs.YtjakkmioofbcaaaDoor
open Go.RowKit
theorem digs_of_cntGo : ∀ (k : Nat) (l : List UInt8) (n : Nat), l.length = k → l ≠ [] → (l.head? ≠ some 48 ∨ l.length = 1) → cntGo l 0 = some n → digs n = l := by
  intro k
  induction k with
  | zero => intro l n hl h0; exact absurd (List.length_eq_zero_iff.1 hl) h0
  | succ k ih =>
    intro l n hl h0 hh hc
    obtain ⟨r, c, rfl⟩ : ∃ r c, l = r ++ [c] := ⟨l.dropLast, l.getLast h0, (List.dropLast_concat_getLast h0).symm⟩
    rw [cntGo_app] at hc
    cases hr : cntGo r 0 with
    | none => rw [hr] at hc; cases hc
    | some m =>
      rw [hr, Option.bind_some, cntGo] at hc
      split at hc
      · cases hc
      · rename_i h1
        split at hc
        · cases hc
        · rename_i h2
          rw [cntGo] at hc
          injection hc with hc
          have hcl : 48 ≤ c.toNat ∧ c.toNat ≤ 57 := by omega
          have hce : UInt8.ofNat (48 + (c.toNat - 48)) = c := by
            rw [show 48 + (c.toNat - 48) = c.toNat by omega]
            simp
          by_cases hr0 : r = []
          · subst hr0
            rw [cntGo] at hr
            injection hr with hr
            subst hr
            subst hc
            rw [digs_small (by omega)]
            simp only [Nat.mul_zero, Nat.zero_add, List.nil_append]
            rw [hce]
          · have hrl : 0 < r.length := List.length_pos_iff.2 hr0
            have hhead : (r ++ [c]).head? = r.head? := by
              cases r with
              | nil => exact absurd rfl hr0
              | cons a q => rfl
            have hh2 : r.head? ≠ some 48 := by
              rcases hh with hh | hh
              · rwa [hhead] at hh
              · simp at hh; exact absurd hh hr0
            have hd := ih r m (by simp at hl; omega) hr0 (.inl hh2) hr
            have hm : m ≠ 0 := by
              rintro rfl
              rw [digs_small (by omega)] at hd
              rw [← hd] at hh2
              exact hh2 rfl
            subst hc
            rw [digs_big (by omega), show (10 * m + (c.toNat - 48)) / 10 = m by omega, hd, show (10 * m + (c.toNat - 48)) % 10 = c.toNat - 48 by omega, hce]
theorem digs_cnt {l : List UInt8} {n : Nat} (h : cnt l = (n, true)) : digs n = l := by
  unfold cnt at h
  split at h
  · cases h
  · rename_i m hm
    simp only [Prod.mk.injEq, decide_eq_true_eq] at h
    obtain ⟨rfl, h0, h1⟩ := h
    exact digs_of_cntGo l.length l m rfl h0 h1 hm
end Go.Proofs.YtjakkmioofbcaaaDoor
namespace Go.Proofs.YtjakkmioofbcaaaDoor
open Go.RowKit
theorem hexd_val (n : Nat) (h : n < 16) : val (hexd n) = n := val_hexd ⟨n, h⟩
theorem hexd_rval (n : Nat) (h : n < 16) : rval (hexd n) = n := rval_hexd ⟨n, h⟩
theorem digGo_cons (c : UInt8) (r : List UInt8) : digGo (c :: r) = hexd (c.toNat / 16) :: hexd (c.toNat % 16) :: digGo r := rfl
theorem byte_parts (c : UInt8) : UInt8.ofNat (16 * (c.toNat / 16) + c.toNat % 16) = c := by
  rw [show 16 * (c.toNat / 16) + c.toNat % 16 = c.toNat by omega]
  simp
theorem txtGo_dig (t : List UInt8) : txtGo (digGo t) = some t := by
  induction t with
  | nil => rfl
  | cons c r ih =>
    have hc := c.toNat_lt
    rw [digGo_cons, txtGo, hexd_val _ (by omega), hexd_val _ (by omega), if_neg (by omega), ih]
    simp only [Option.map_some, Option.some.injEq, List.cons.injEq, and_true]
    rw [show (16 * ((c.toNat / 16 : Nat) : Int) + ((c.toNat % 16 : Nat) : Int)).toNat = 16 * (c.toNat / 16) + c.toNat % 16 by omega]
    exact byte_parts c
theorem rtxtGo_dig (t : List UInt8) : rtxtGo (digGo t) = t := by
  induction t with
  | nil => rfl
  | cons c r ih =>
    have hc := c.toNat_lt
    rw [digGo_cons, rtxtGo, hexd_rval _ (by omega), hexd_rval _ (by omega), ih, byte_parts]
theorem txt_dig (t : List UInt8) : txt (dig t) = some t := by
  unfold dig
  split
  · rename_i h; subst h; rfl
  · rename_i h
    have hl := digGo_len t
    have hp := List.length_pos_iff.2 h
    rw [txt, if_neg (fun e => by rw [e] at hl; simp at hl; omega), if_neg (by
      rintro (e | e)
      · rw [e] at hl; simp at hl; omega
      · omega)]
    exact txtGo_dig t
theorem rtxt_dig (t : List UInt8) : rtxtGo (dig t) = t := by
  unfold dig
  split
  · rename_i h; subst h; rfl
  · exact rtxtGo_dig t
end Go.Proofs.YtjakkmioofbcaaaDoor
namespace Go.Proofs.YtjakkmioofbcaaaDoor
open Go.RowKit
theorem dig_of_txtGo : ∀ (l t : List UInt8), l.length % 2 = 0 → txtGo l = some t → digGo t = l := by
  intro l
  induction l using txtGo.induct with
  | case1 a b r h =>
    intro t _ ht
    rw [txtGo, if_pos h] at ht
    cases ht
  | case2 a b r h ih =>
    intro t hl ht
    rw [txtGo, if_neg h, Option.map_eq_some_iff] at ht
    obtain ⟨u, hu, rfl⟩ := ht
    obtain ⟨⟨a0, a1⟩, a2⟩ := val_all a
    obtain ⟨⟨b0, b1⟩, b2⟩ := val_all b
    have ha : ¬ val a < 0 := fun e => h (.inl e)
    have hb : ¬ val b < 0 := fun e => h (.inr e)
    have hn : (UInt8.ofNat (16 * val a + val b).toNat).toNat = 16 * (val a).toNat + (val b).toNat := by
      have e : (16 * val a + val b).toNat = 16 * (val a).toNat + (val b).toNat := by omega
      rw [e]
      simp
      omega
    rw [digGo_cons, hn, show (16 * (val a).toNat + (val b).toNat) / 16 = (val a).toNat by omega, show (16 * (val a).toNat + (val b).toNat) % 16 = (val b).toNat by omega, a2 (by omega), b2 (by omega), ih u (by simp at hl; omega) hu]
  | case3 l h =>
    intro t hl ht
    rw [txtGo] at ht
    · injection ht with ht
      subst ht
      match l, h, hl with
      | [], _, _ => rfl
      | [_], _, hl => simp at hl
      | a :: b :: r, h, _ => exact absurd rfl (h a b r)
    · exact h
theorem dig_txt {l t : List UInt8} (h : txt l = some t) : dig t = l := by
  unfold txt at h
  split at h
  · rename_i e
    injection h with h
    subst h
    subst e
    rfl
  · split at h
    · cases h
    · rename_i h1 h2
      have hd := dig_of_txtGo l t (by omega) h
      unfold dig
      split
      · rename_i e
        subst e
        exact absurd hd.symm (fun e => h2 (.inl e))
      · exact hd
end Go.Proofs.YtjakkmioofbcaaaDoor
namespace Go.Proofs.YtjakkmioofbcaaaDoor
open Go.RowKit
theorem hexd_no32 : ∀ n : Fin 16, hexd n.1 ≠ 32 := by decide +kernel
theorem dig_no32 (t : List UInt8) : (32 : UInt8) ∉ dig t := by
  unfold dig
  split
  · decide
  · intro h
    unfold digGo at h
    rw [List.mem_flatMap] at h
    obtain ⟨c, _, hc⟩ := h
    have hb := c.toNat_lt
    simp only [List.mem_cons, List.not_mem_nil, or_false] at hc
    rcases hc with hc | hc
    · exact hexd_no32 ⟨c.toNat / 16, by omega⟩ hc.symm
    · exact hexd_no32 ⟨c.toNat % 16, by omega⟩ hc.symm
theorem tru_no32 (l : List Bool) : (32 : UInt8) ∉ tru l := by
  unfold tru
  split
  · decide
  · intro h
    unfold truGo at h
    rw [List.mem_map] at h
    obtain ⟨x, _, hx⟩ := h
    cases x <;> simp at hx
theorem word_no32 (op : Int) : (32 : UInt8) ∉ wordL op := by
  unfold wordL
  repeat' split
  all_goals decide
theorem keep_tru (l : List Bool) : keepOf (tru l) = l := by
  unfold tru
  split
  · rename_i h; subst h; rfl
  · rename_i h
    unfold keepOf
    rw [if_neg (by
      intro e
      cases l with
      | nil => exact h rfl
      | cons a r => cases a <;> simp [truGo] at e)]
    unfold truGo
    rw [List.map_map]
    refine (List.map_congr_left (fun x _ => ?_)).trans (List.map_id l)
    cases x <;> rfl
end Go.Proofs.YtjakkmioofbcaaaDoor
namespace Go.Proofs.YtjakkmioofbcaaaDoor
open Go.RowKit
def wordsOf (s : St) : List (List UInt8) :=
  if s.k = 1 then wordL s.op :: (if s.op = 2 then [dig s.dt] else if s.op = 1 ∨ s.op = 5 ∨ s.op = 6 then [dig s.nm] else [])
  else if s.k = 2 then [fuseW, digs s.n.toNat]
  else if s.k = 3 then [powerW, tru s.kp]
  else confW :: setL s.c
theorem join_words (s : St) : joinL (wordsOf s) = lineL s := by
  unfold wordsOf lineL callL
  split
  · split
    · rw [joinL_cons _ _ (by simp), joinL_one]
    · split
      · rw [joinL_cons _ _ (by simp), joinL_one]
      · rw [joinL_one, List.append_nil]
  · split
    · rw [joinL_cons _ _ (by simp), joinL_one]
    · split
      · rw [joinL_cons _ _ (by simp), joinL_one]
      · rw [joinL_cons _ _ (by intro e; have := setL_len s.c; rw [e] at this; simp at this)]
theorem words_no32 (s : St) : ∀ x ∈ wordsOf s, (32 : UInt8) ∉ x := by
  intro x hx
  unfold wordsOf at hx
  split at hx
  · rcases List.mem_cons.1 hx with rfl | hx
    · exact word_no32 _
    · split at hx
      · rw [List.mem_singleton] at hx; subst hx; exact dig_no32 _
      · split at hx
        · rw [List.mem_singleton] at hx; subst hx; exact dig_no32 _
        · cases hx
  · split at hx
    · simp only [List.mem_cons, List.not_mem_nil, or_false] at hx
      rcases hx with rfl | rfl
      · decide
      · exact digs_no32 _
    · split at hx
      · simp only [List.mem_cons, List.not_mem_nil, or_false] at hx
        rcases hx with rfl | rfl
        · decide
        · exact tru_no32 _
      · rcases List.mem_cons.1 hx with rfl | hx
        · decide
        · unfold setL at hx
          obtain ⟨i, _, rfl⟩ := List.mem_map.1 hx
          exact digs_no32 _
theorem words_ne (s : St) : wordsOf s ≠ [] := by
  unfold wordsOf
  repeat' split
  all_goals simp
theorem split_line (s : St) : splitL 32 (lineL s) = wordsOf s := by
  rw [← join_words, split_join _ (words_ne s) (words_no32 s)]
end Go.Proofs.YtjakkmioofbcaaaDoor
namespace Go.Proofs.YtjakkmioofbcaaaDoor
open Go.RowKit
theorem word_range {op : Int} (h : wordL op ≠ []) : op = 1 ∨ op = 2 ∨ op = 3 ∨ op = 4 ∨ op = 5 ∨ op = 6 ∨ op = 7 ∨ op = 8 := by
  unfold wordL at h
  by_cases h1 : op = 1
  · exact .inl h1
  by_cases h2 : op = 2
  · omega
  by_cases h3 : op = 3
  · omega
  by_cases h4 : op = 4
  · omega
  by_cases h5 : op = 5
  · omega
  by_cases h6 : op = 6
  · omega
  by_cases h7 : op = 7
  · omega
  by_cases h8 : op = 8
  · omega
  rw [if_neg h1, if_neg h2, if_neg h3, if_neg h4, if_neg h5, if_neg h6, if_neg h7, if_neg h8] at h
  exact absurd rfl h
theorem nums_set (c : Fin 13 → Int) (h : ∀ i, 0 ≤ c i ∧ c i ≤ 2147483647) : nums (setL c) = c := by
  funext i
  unfold nums
  have e : (setL c).getD i.1 [] = digs (c i).toNat := by
    have := setL_get c i
    simp [List.getD, this]
  have := h i
  rw [e, cnt_digs _ (by omega)]
  simp
  omega
theorem conf_set (c : Fin 13 → Int) (h : ∀ i, 0 ≤ c i ∧ c i ≤ 2147483647) : confP (setL c) = some c := by
  unfold confP
  rw [if_pos, nums_set c h]
  refine ⟨setL_len c, ?_⟩
  rw [List.all_eq_true]
  intro x hx
  obtain ⟨i, _, rfl⟩ := List.mem_map.1 hx
  have := h i
  rw [cnt_digs _ (by omega)]
end Go.Proofs.YtjakkmioofbcaaaDoor
namespace Go.Proofs.YtjakkmioofbcaaaDoor
open Go.RowKit
theorem step_words (s : St) (h : mayB s = true) : stepP (wordsOf s) = some s := by
  have g0 : ∀ (a : List UInt8) (r : List (List UInt8)), (a :: r).getD 0 [] = a := fun _ _ => rfl
  have g1 : ∀ (a b : List UInt8) (r : List (List UInt8)), (a :: b :: r).getD 1 [] = b := fun _ _ _ => rfl
  have hm := h
  obtain ⟨k, op, nm, dt, n, kp, c⟩ := s
  have hfin : fin ⟨k, op, nm, dt, n, kp, c⟩ = some ⟨k, op, nm, dt, n, kp, c⟩ := by rw [fin, if_pos h]
  by_cases k2 : k = 2
  · subst k2
    have hj : justB ⟨2, op, nm, dt, n, kp, c⟩ = (call0 op nm dt && decide (kp = []) && decide (c = c0)) := rfl
    simp only [mayB, hj, Bool.and_eq_true, decide_eq_true_eq, Bool.or_eq_true, call0_iff] at h
    obtain ⟨⟨⟨⟨⟨⟨⟨⟨⟨⟨⟨rfl, rfl, rfl⟩, rfl⟩, rfl⟩, h1⟩, h2⟩, _⟩, _⟩, _⟩, _⟩, _⟩, _⟩ := h
    have hw : wordsOf ⟨2, 0, [], [], n, [], c0⟩ = [fuseW, digs n.toNat] := rfl
    have hc := cnt_digs n.toNat (by omega)
    rw [hw, stepP]
    simp only [g0, g1]
    rw [if_pos trivial, if_pos ⟨rfl, by rw [hc]⟩, hc, show ((n.toNat : Nat) : Int) = n by omega]
    exact hfin
  by_cases k3 : k = 3
  · subst k3
    have hj : justB ⟨3, op, nm, dt, n, kp, c⟩ = (call0 op nm dt && decide (n = 0) && decide (c = c0)) := rfl
    simp only [mayB, hj, Bool.and_eq_true, decide_eq_true_eq, Bool.or_eq_true, call0_iff] at h
    obtain ⟨⟨⟨⟨⟨⟨⟨⟨⟨⟨⟨rfl, rfl, rfl⟩, rfl⟩, rfl⟩, _⟩, _⟩, _⟩, _⟩, _⟩, _⟩, _⟩, _⟩ := h
    have hw : wordsOf ⟨3, 0, [], [], 0, kp, c0⟩ = [powerW, tru kp] := rfl
    rw [hw, stepP]
    simp only [g0, g1]
    rw [if_neg (by decide), if_pos trivial, if_pos ⟨rfl, by rw [keep_tru]⟩, keep_tru]
    exact hfin
  by_cases k4 : k = 4
  · subst k4
    have hj : justB ⟨4, op, nm, dt, n, kp, c⟩ = (call0 op nm dt && decide (n = 0) && decide (kp = [])) := rfl
    simp only [mayB, hj, Bool.and_eq_true, decide_eq_true_eq, Bool.or_eq_true, call0_iff] at h
    obtain ⟨⟨⟨⟨⟨⟨⟨⟨⟨⟨⟨rfl, rfl, rfl⟩, rfl⟩, rfl⟩, _⟩, _⟩, h1⟩, _⟩, _⟩, _⟩, _⟩, _⟩ := h
    have hw : wordsOf ⟨4, 0, [], [], 0, [], c⟩ = confW :: setL c := rfl
    rw [hw, stepP]
    simp only [g0]
    rw [if_neg (by decide), if_neg (by decide), if_pos trivial, List.tail_cons, conf_set c (small_spec h1)]
    exact hfin
  have hj0 := (may_just hm).1
  have hkr := just_k hj0
  simp only at hkr
  obtain rfl : k = 1 := by omega
  have hj : justB ⟨1, op, nm, dt, n, kp, c⟩ = (decide (n = 0) && decide (kp = []) && decide (c = c0)) := rfl
  simp only [mayB, hj, callOk, Bool.and_eq_true, decide_eq_true_eq, Bool.or_eq_true, ne_eq, not_true_eq_false, false_or] at h
  obtain ⟨⟨⟨⟨⟨⟨⟨⟨⟨⟨rfl, rfl⟩, rfl⟩, _⟩, _⟩, _⟩, ⟨hw, hn⟩, hd⟩, _⟩, _⟩, _⟩, _⟩ := h
  rcases word_range hw with rfl | rfl | rfl | rfl | rfl | rfl | rfl | rfl
  · obtain rfl : dt = [] := by simpa using hd
    have hq : wordsOf ⟨1, 1, nm, [], 0, [], c0⟩ = [wordL 1, dig nm] := rfl
    have hc : calledP [wordL 1, dig nm] = some (1, nm, []) := by
      unfold calledP
      simp only [g0, show opOf (wordL 1) = 1 from opOf_word 1]
      rw [if_neg (by decide), if_neg (by decide), if_pos (by decide), if_pos (show [wordL 1, dig nm].length = 2 from rfl), g1, txt_dig]
      rfl
    rw [hq, stepP]
    simp only [g0]
    rw [if_neg (by decide), if_neg (by decide), if_neg (by decide), hc]
    exact hfin
  · obtain rfl : nm = [] := by simpa using hn
    have hq : wordsOf ⟨1, 2, [], dt, 0, [], c0⟩ = [wordL 2, dig dt] := rfl
    have hc : calledP [wordL 2, dig dt] = some (2, [], dt) := by
      unfold calledP
      simp only [g0, show opOf (wordL 2) = 2 from opOf_word 2]
      rw [if_neg (by decide), if_pos trivial, if_pos (show [wordL 2, dig dt].length = 2 from rfl), g1, txt_dig]
      rfl
    rw [hq, stepP]
    simp only [g0]
    rw [if_neg (by decide), if_neg (by decide), if_neg (by decide), hc]
    exact hfin
  · obtain rfl : dt = [] := by simpa using hd
    obtain rfl : nm = [] := by simpa using hn
    have hq : wordsOf ⟨1, 3, [], [], 0, [], c0⟩ = [wordL 3] := rfl
    have hc : calledP [wordL 3] = some (3, [], []) := by
      unfold calledP
      simp only [g0, show opOf (wordL 3) = 3 from opOf_word 3]
      rw [if_neg (by decide), if_neg (by decide), if_neg (by decide), if_pos (show [wordL 3].length = 1 from rfl)]
    rw [hq, stepP]
    simp only [g0]
    rw [if_neg (by decide), if_neg (by decide), if_neg (by decide), hc]
    exact hfin
  · obtain rfl : dt = [] := by simpa using hd
    obtain rfl : nm = [] := by simpa using hn
    have hq : wordsOf ⟨1, 4, [], [], 0, [], c0⟩ = [wordL 4] := rfl
    have hc : calledP [wordL 4] = some (4, [], []) := by
      unfold calledP
      simp only [g0, show opOf (wordL 4) = 4 from opOf_word 4]
      rw [if_neg (by decide), if_neg (by decide), if_neg (by decide), if_pos (show [wordL 4].length = 1 from rfl)]
    rw [hq, stepP]
    simp only [g0]
    rw [if_neg (by decide), if_neg (by decide), if_neg (by decide), hc]
    exact hfin
  · obtain rfl : dt = [] := by simpa using hd
    have hq : wordsOf ⟨1, 5, nm, [], 0, [], c0⟩ = [wordL 5, dig nm] := rfl
    have hc : calledP [wordL 5, dig nm] = some (5, nm, []) := by
      unfold calledP
      simp only [g0, show opOf (wordL 5) = 5 from opOf_word 5]
      rw [if_neg (by decide), if_neg (by decide), if_pos (by decide), if_pos (show [wordL 5, dig nm].length = 2 from rfl), g1, txt_dig]
      rfl
    rw [hq, stepP]
    simp only [g0]
    rw [if_neg (by decide), if_neg (by decide), if_neg (by decide), hc]
    exact hfin
  · obtain rfl : dt = [] := by simpa using hd
    have hq : wordsOf ⟨1, 6, nm, [], 0, [], c0⟩ = [wordL 6, dig nm] := rfl
    have hc : calledP [wordL 6, dig nm] = some (6, nm, []) := by
      unfold calledP
      simp only [g0, show opOf (wordL 6) = 6 from opOf_word 6]
      rw [if_neg (by decide), if_neg (by decide), if_pos (by decide), if_pos (show [wordL 6, dig nm].length = 2 from rfl), g1, txt_dig]
      rfl
    rw [hq, stepP]
    simp only [g0]
    rw [if_neg (by decide), if_neg (by decide), if_neg (by decide), hc]
    exact hfin
  · obtain rfl : dt = [] := by simpa using hd
    obtain rfl : nm = [] := by simpa using hn
    have hq : wordsOf ⟨1, 7, [], [], 0, [], c0⟩ = [wordL 7] := rfl
    have hc : calledP [wordL 7] = some (7, [], []) := by
      unfold calledP
      simp only [g0, show opOf (wordL 7) = 7 from opOf_word 7]
      rw [if_neg (by decide), if_neg (by decide), if_neg (by decide), if_pos (show [wordL 7].length = 1 from rfl)]
    rw [hq, stepP]
    simp only [g0]
    rw [if_neg (by decide), if_neg (by decide), if_neg (by decide), hc]
    exact hfin
  · obtain rfl : dt = [] := by simpa using hd
    obtain rfl : nm = [] := by simpa using hn
    have hq : wordsOf ⟨1, 8, [], [], 0, [], c0⟩ = [wordL 8] := rfl
    have hc : calledP [wordL 8] = some (8, [], []) := by
      unfold calledP
      simp only [g0, show opOf (wordL 8) = 8 from opOf_word 8]
      rw [if_neg (by decide), if_neg (by decide), if_neg (by decide), if_pos (show [wordL 8].length = 1 from rfl)]
    rw [hq, stepP]
    simp only [g0]
    rw [if_neg (by decide), if_neg (by decide), if_neg (by decide), hc]
    exact hfin
end Go.Proofs.YtjakkmioofbcaaaDoor
namespace Go.Proofs.YtjakkmioofbcaaaDoor
open Go.RowKit
theorem sz_digs (n : Nat) (h : n ≤ 2147483647) : sz (digs n) = n := by
  have key : ∀ m : Nat, szGo (digs m) 0 = m := by
    intro m
    induction m using Nat.strongRecOn with
    | _ m ih =>
      have hr : ∀ d : Nat, d < 10 → rval (UInt8.ofNat (48 + d)) = d := fun d hd => by
        unfold rval
        rw [ofNat_digit d hd, if_pos (by omega)]
        omega
      by_cases h10 : m < 10
      · rw [digs_small h10, szGo, szGo, hr m h10]
        omega
      · rw [digs_big h10, szGo_snoc, ih (m / 10) (by omega), hr (m % 10) (by omega)]
        omega
  unfold sz
  rw [if_pos (digs_len10 n (by omega)), key]
theorem cf_set (c : Fin 13 → Int) (h : ∀ i, 0 ≤ c i ∧ c i ≤ 2147483647) : cfOf (szs (setL c)) = c := by
  funext i
  unfold cfOf szs
  have := setL_get c i
  have hi := h i
  rw [List.getD, List.getElem?_map, this]
  simp only [Option.map_some, Option.getD_some]
  rw [sz_digs _ (by omega)]
  omega
theorem guess_words (s : St) (h : mayB s = true) : guessP (wordsOf s) = s := by
  have g0 : ∀ (a : List UInt8) (r : List (List UInt8)), (a :: r).getD 0 [] = a := fun _ _ => rfl
  have g1 : ∀ (a b : List UInt8) (r : List (List UInt8)), (a :: b :: r).getD 1 [] = b := fun _ _ _ => rfl
  have hm := h
  obtain ⟨k, op, nm, dt, n, kp, c⟩ := s
  by_cases k2 : k = 2
  · subst k2
    have hj : justB ⟨2, op, nm, dt, n, kp, c⟩ = (call0 op nm dt && decide (kp = []) && decide (c = c0)) := rfl
    simp only [mayB, hj, Bool.and_eq_true, decide_eq_true_eq, Bool.or_eq_true, call0_iff] at h
    obtain ⟨⟨⟨⟨⟨⟨⟨⟨⟨⟨⟨rfl, rfl, rfl⟩, rfl⟩, rfl⟩, h1⟩, h2⟩, _⟩, _⟩, _⟩, _⟩, _⟩, _⟩ := h
    have hw : wordsOf ⟨2, 0, [], [], n, [], c0⟩ = [fuseW, digs n.toNat] := rfl
    rw [hw, guessP]
    simp only [g0, g1]
    rw [if_neg (by decide), if_pos ⟨trivial, rfl⟩, sz_digs _ (by omega), show ((n.toNat : Nat) : Int) = n by omega]
  by_cases k3 : k = 3
  · subst k3
    have hj : justB ⟨3, op, nm, dt, n, kp, c⟩ = (call0 op nm dt && decide (n = 0) && decide (c = c0)) := rfl
    simp only [mayB, hj, Bool.and_eq_true, decide_eq_true_eq, Bool.or_eq_true, call0_iff] at h
    obtain ⟨⟨⟨⟨⟨⟨⟨⟨⟨⟨⟨rfl, rfl, rfl⟩, rfl⟩, rfl⟩, _⟩, _⟩, _⟩, _⟩, _⟩, _⟩, _⟩, _⟩ := h
    have hw : wordsOf ⟨3, 0, [], [], 0, kp, c0⟩ = [powerW, tru kp] := rfl
    rw [hw, guessP]
    simp only [g0, g1]
    rw [if_neg (by decide), if_neg (fun q => absurd q.1 (by decide)), if_pos ⟨trivial, rfl⟩, keep_tru]
  by_cases k4 : k = 4
  · subst k4
    have hj : justB ⟨4, op, nm, dt, n, kp, c⟩ = (call0 op nm dt && decide (n = 0) && decide (kp = [])) := rfl
    simp only [mayB, hj, Bool.and_eq_true, decide_eq_true_eq, Bool.or_eq_true, call0_iff] at h
    obtain ⟨⟨⟨⟨⟨⟨⟨⟨⟨⟨⟨rfl, rfl, rfl⟩, rfl⟩, rfl⟩, _⟩, _⟩, h1⟩, _⟩, _⟩, _⟩, _⟩, _⟩ := h
    have hw : wordsOf ⟨4, 0, [], [], 0, [], c⟩ = confW :: setL c := rfl
    rw [hw, guessP]
    simp only [g0]
    rw [if_neg (by decide), if_neg (fun q => absurd q.1 (by decide)), if_neg (fun q => absurd q.1 (by decide)), if_pos ⟨trivial, rfl⟩, List.tail_cons, cf_set c (small_spec h1)]
  have hj0 := (may_just hm).1
  have hkr := just_k hj0
  simp only at hkr
  obtain rfl : k = 1 := by omega
  have hj : justB ⟨1, op, nm, dt, n, kp, c⟩ = (decide (n = 0) && decide (kp = []) && decide (c = c0)) := rfl
  simp only [mayB, hj, callOk, Bool.and_eq_true, decide_eq_true_eq, Bool.or_eq_true, ne_eq, not_true_eq_false, false_or] at h
  obtain ⟨⟨⟨⟨⟨⟨⟨⟨⟨⟨rfl, rfl⟩, rfl⟩, _⟩, _⟩, _⟩, ⟨hw, hn⟩, hd⟩, _⟩, _⟩, _⟩, _⟩ := h
  rcases word_range hw with rfl | rfl | rfl | rfl | rfl | rfl | rfl | rfl
  · obtain rfl : dt = [] := by simpa using hd
    have hq : wordsOf ⟨1, 1, nm, [], 0, [], c0⟩ = [wordL 1, dig nm] := rfl
    unfold guessP
    rw [hq]
    simp only [g0, show opOf (wordL 1) = 1 from opOf_word 1]
    rw [if_pos (by decide), if_pos (show [wordL 1, dig nm].length = 2 from rfl), if_neg (by decide), g1, rtxt_dig]
  · obtain rfl : nm = [] := by simpa using hn
    have hq : wordsOf ⟨1, 2, [], dt, 0, [], c0⟩ = [wordL 2, dig dt] := rfl
    unfold guessP
    rw [hq]
    simp only [g0, show opOf (wordL 2) = 2 from opOf_word 2]
    rw [if_pos (by decide), if_pos (show [wordL 2, dig dt].length = 2 from rfl), if_pos trivial, g1, rtxt_dig]
  · obtain rfl : dt = [] := by simpa using hd
    obtain rfl : nm = [] := by simpa using hn
    have hq : wordsOf ⟨1, 3, [], [], 0, [], c0⟩ = [wordL 3] := rfl
    unfold guessP
    rw [hq]
    simp only [g0, show opOf (wordL 3) = 3 from opOf_word 3]
    rw [if_pos (by decide), if_neg (show ¬ [wordL 3].length = 2 by decide)]
  · obtain rfl : dt = [] := by simpa using hd
    obtain rfl : nm = [] := by simpa using hn
    have hq : wordsOf ⟨1, 4, [], [], 0, [], c0⟩ = [wordL 4] := rfl
    unfold guessP
    rw [hq]
    simp only [g0, show opOf (wordL 4) = 4 from opOf_word 4]
    rw [if_pos (by decide), if_neg (show ¬ [wordL 4].length = 2 by decide)]
  · obtain rfl : dt = [] := by simpa using hd
    have hq : wordsOf ⟨1, 5, nm, [], 0, [], c0⟩ = [wordL 5, dig nm] := rfl
    unfold guessP
    rw [hq]
    simp only [g0, show opOf (wordL 5) = 5 from opOf_word 5]
    rw [if_pos (by decide), if_pos (show [wordL 5, dig nm].length = 2 from rfl), if_neg (by decide), g1, rtxt_dig]
  · obtain rfl : dt = [] := by simpa using hd
    have hq : wordsOf ⟨1, 6, nm, [], 0, [], c0⟩ = [wordL 6, dig nm] := rfl
    unfold guessP
    rw [hq]
    simp only [g0, show opOf (wordL 6) = 6 from opOf_word 6]
    rw [if_pos (by decide), if_pos (show [wordL 6, dig nm].length = 2 from rfl), if_neg (by decide), g1, rtxt_dig]
  · obtain rfl : dt = [] := by simpa using hd
    obtain rfl : nm = [] := by simpa using hn
    have hq : wordsOf ⟨1, 7, [], [], 0, [], c0⟩ = [wordL 7] := rfl
    unfold guessP
    rw [hq]
    simp only [g0, show opOf (wordL 7) = 7 from opOf_word 7]
    rw [if_pos (by decide), if_neg (show ¬ [wordL 7].length = 2 by decide)]
  · obtain rfl : dt = [] := by simpa using hd
    obtain rfl : nm = [] := by simpa using hn
    have hq : wordsOf ⟨1, 8, [], [], 0, [], c0⟩ = [wordL 8] := rfl
    unfold guessP
    rw [hq]
    simp only [g0, show opOf (wordL 8) = 8 from opOf_word 8]
    rw [if_pos (by decide), if_neg (show ¬ [wordL 8].length = 2 by decide)]
end Go.Proofs.YtjakkmioofbcaaaDoor
namespace Go.Proofs.YtjakkmioofbcaaaDoor
open Go.RowKit
theorem fin_some {s x : St} (h : fin s = some x) : x = s ∧ mayB s = true := by
  unfold fin at h
  split at h
  · rename_i hm
    injection h with h
    exact ⟨h.symm, hm⟩
  · cases h
theorem cnt_pair {l : List UInt8} (h : (cnt l).2 = true) : digs (cnt l).1 = l := digs_cnt (Prod.ext rfl h)
theorem two_words {ws : List (List UInt8)} (h : ws.length = 2) : ws = [ws.getD 0 [], ws.getD 1 []] := by
  match ws, h with
  | [a, b], _ => rfl
theorem one_word {ws : List (List UInt8)} (h : ws.length = 1) : ws = [ws.getD 0 []] := by
  match ws, h with
  | [a], _ => rfl
theorem set_conf {ws : List (List UInt8)} {c : Fin 13 → Int} (h : confP ws = some c) : setL c = ws := by
  unfold confP at h
  split at h
  · rename_i hh
    injection h with h
    subst h
    obtain ⟨hl, ha⟩ := hh
    rw [List.all_eq_true] at ha
    apply List.ext_getElem
    · rw [setL_len, hl]
    · intro i h1 h2
      have hi : i < 13 := by rwa [setL_len] at h1
      have e := setL_get (nums ws) ⟨i, hi⟩
      have e2 : (setL (nums ws))[i] = digs (nums ws ⟨i, hi⟩).toNat := by
        have := List.getElem?_eq_getElem h1
        rw [this] at e
        injection e
      refine e2.trans ?_
      unfold nums
      have hg : ws.getD i [] = ws[i] := by simp [List.getD, h2]
      simp only [hg, Int.toNat_natCast]
      exact cnt_pair (ha _ (List.getElem_mem h2))
  · cases h
end Go.Proofs.YtjakkmioofbcaaaDoor
namespace Go.Proofs.YtjakkmioofbcaaaDoor
open Go.RowKit
theorem op_word {x : List UInt8} (h : opOf x ≠ 0) : wordL (opOf x) = x ∧ (opOf x = 1 ∨ opOf x = 2 ∨ opOf x = 3 ∨ opOf x = 4 ∨ opOf x = 5 ∨ opOf x = 6 ∨ opOf x = 7 ∨ opOf x = 8) := by
  by_cases hx : ∃ k : Nat, 1 ≤ k ∧ k ≤ 8 ∧ wordL k = x
  · obtain ⟨k, h1, h8, rfl⟩ := hx
    rw [opOf_hit h1 h8 rfl]
    exact ⟨rfl, by omega⟩
  · exact absurd (opOf_none (fun j a b e => hx ⟨j, a, b, e⟩)) h
theorem words_called {ws : List (List UInt8)} {op : Int} {nm dt : List UInt8} (h : calledP ws = some (op, nm, dt)) : wordsOf ⟨1, op, nm, dt, 0, [], c0⟩ = ws := by
  unfold calledP at h
  split at h
  · cases h
  · rename_i h0
    obtain ⟨hw, _⟩ := op_word h0
    split at h
    · rename_i h2
      split at h
      · rename_i hl
        rw [Option.map_eq_some_iff] at h
        obtain ⟨t, ht, e⟩ := h
        injection e with e1 e
        injection e with e2 e3
        subst e1 e2 e3
        show [wordL 2, dig t] = ws
        rw [two_words hl, dig_txt ht, ← h2, hw]
      · cases h
    · rename_i h2
      split at h
      · rename_i h3
        split at h
        · rename_i hl
          rw [Option.map_eq_some_iff] at h
          obtain ⟨t, ht, e⟩ := h
          injection e with e1 e
          injection e with e2 e3
          subst e1 e2 e3
          have e : wordsOf ⟨1, opOf (ws.getD 0 []), t, [], 0, [], c0⟩ = [wordL (opOf (ws.getD 0 [])), dig t] := by
            simp only [wordsOf, if_true, if_neg h2, if_pos h3]
          rw [e, dig_txt ht, hw]
          exact (two_words hl).symm
        · cases h
      · rename_i h3
        split at h
        · rename_i hl
          injection h with e
          injection e with e1 e
          injection e with e2 e3
          subst e1 e2 e3
          have e : wordsOf ⟨1, opOf (ws.getD 0 []), [], [], 0, [], c0⟩ = [wordL (opOf (ws.getD 0 []))] := by
            simp only [wordsOf, if_true, if_neg h2, if_neg h3]
          rw [e, hw]
          exact (one_word hl).symm
        · cases h
end Go.Proofs.YtjakkmioofbcaaaDoor
namespace Go.Proofs.YtjakkmioofbcaaaDoor
open Go.RowKit
theorem head_tail {ws : List (List UInt8)} {x : List UInt8} (h : ws.getD 0 [] = x) (hx : x ≠ []) : x :: ws.tail = ws := by
  match ws, h with
  | [], h => exact absurd h.symm hx
  | a :: r, h => rw [← h]; rfl
theorem step_some {ws : List (List UInt8)} {x : St} (h : stepP ws = some x) : mayB x = true ∧ wordsOf x = ws := by
  unfold stepP at h
  split at h
  · rename_i h0
    split at h
    · rename_i h2
      obtain ⟨e, hm⟩ := fin_some h
      refine ⟨e ▸ hm, ?_⟩
      rw [e]
      show [fuseW, digs ((cnt (ws.getD 1 [])).1 : Int).toNat] = ws
      rw [Int.toNat_natCast, cnt_pair h2.2, ← h0]
      exact (two_words h2.1).symm
    · cases h
  · split at h
    · rename_i h0
      split at h
      · rename_i h2
        obtain ⟨e, hm⟩ := fin_some h
        refine ⟨e ▸ hm, ?_⟩
        rw [e]
        show [powerW, tru (keepOf (ws.getD 1 []))] = ws
        rw [h2.2, ← h0]
        exact (two_words h2.1).symm
      · cases h
    · split at h
      · rename_i h0
        split at h
        · rename_i c hc
          obtain ⟨e, hm⟩ := fin_some h
          refine ⟨e ▸ hm, ?_⟩
          rw [e]
          show confW :: setL c = ws
          rw [set_conf hc]
          exact head_tail h0 (by decide)
        · cases h
      · split at h
        · rename_i op nm dt hc
          obtain ⟨e, hm⟩ := fin_some h
          refine ⟨e ▸ hm, ?_⟩
          rw [e]
          exact words_called hc
        · cases h
theorem parse_line {l : List UInt8} {x : St} (h : parseP l = some x) : mayB x = true ∧ lineL x = l := by
  obtain ⟨hm, hw⟩ := step_some h
  exact ⟨hm, by rw [← join_words, hw, join_split]⟩
theorem line_parse {x : St} (h : mayB x = true) : parseP (lineL x) = some x := by
  unfold parseP
  rw [split_line, step_words x h]
theorem parse_both (l : List UInt8) : rparseP l = parseP l := by
  unfold rparseP
  split
  · rename_i h
    have e : splitL 32 l = wordsOf (guessP (splitL 32 l)) := by
      conv => lhs; rw [← h.2]
      exact split_line _
    have hm : mayB (guessP (splitL 32 l)) = true := by rw [← may_eq]; exact h.1
    have := line_parse hm
    rw [h.2] at this
    exact this.symm
  · rename_i h
    cases hp : parseP l with
    | none => rfl
    | some x =>
      exfalso
      apply h
      obtain ⟨hm, hw⟩ := step_some hp
      have hg : guessP (splitL 32 l) = x := by rw [← hw]; exact guess_words x hm
      rw [hg, may_eq]
      exact parse_line hp
end Go.Proofs.YtjakkmioofbcaaaDoor
