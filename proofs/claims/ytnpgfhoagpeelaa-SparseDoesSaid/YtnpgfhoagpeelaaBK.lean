/- The reference's Peek, Len, Hooks. -/
import Derived.Test.YtnpgfhoagpeelaaBJ
namespace Go.Proofs.Ytnpgfhoagpeelaa
open Go.RowKit
open Go.Maps
theorem peekR_none {rs : List Rr} {f : Fp} (h : ∀ x ∈ rs, x.f ≠ f) : peekA (abR rs) f = [] := peek_none (fun r hr => by
  obtain ⟨x, hx, rfl⟩ := List.mem_map.1 hr
  exact h x hx)
theorem peekR_hit {rs : List Rr} {f : Fp} {k : Nat} {r : Rr} (hk : rs[k]? = some r) (he : r.f = f) (hn : ∀ x ∈ rs.take k, x.f ≠ f) : peekA (abR rs) f = r.l := by
  have hlt := (List.getElem?_eq_some_iff.1 hk).1
  have e : rs = rs.take k ++ r :: rs.drop (k + 1) := by
    rw [← (List.getElem?_eq_some_iff.1 hk).2, ← List.drop_eq_getElem_cons hlt, List.take_append_drop]
  rw [e]
  unfold abR
  rw [List.map_append, peek_app (fun x hx => by obtain ⟨y, hy, rfl⟩ := List.mem_map.1 hx; exact hn y hy), List.map_cons]
  unfold peekA
  rw [List.find?_cons_of_pos (by simpa using he)]
  rfl
theorem at_cases (rs : List Rr) (f : Fp) : ((∀ x ∈ rs, x.f ≠ f) ∧ atI rs f = -1) ∨ ∃ (k : Nat) (r : Rr), rs[k]? = some r ∧ r.f = f ∧ atI rs f = (k : Int) ∧ ∀ x ∈ rs.take k, x.f ≠ f := by
  by_cases h : ∃ x ∈ rs, x.f = f
  · right
    have key : ∀ L : List Rr, (∃ x ∈ L, x.f = f) → ∃ (k : Nat) (r : Rr), L[k]? = some r ∧ r.f = f ∧ ∀ x ∈ L.take k, x.f ≠ f := by
      intro L
      induction L with
      | nil => rintro ⟨x, hx, _⟩; cases hx
      | cons a L ih =>
        rintro ⟨x, hx, he⟩
        by_cases q : a.f = f
        · exact ⟨0, a, rfl, q, fun y hy => by simp at hy⟩
        · obtain ⟨k, r, h1, h2, h3⟩ := ih ⟨x, (List.mem_cons.1 hx).resolve_left (fun e => q (by rw [← e]; exact he)), he⟩
          refine ⟨k + 1, r, by simpa using h1, h2, fun y hy => ?_⟩
          rw [List.take_succ_cons] at hy
          rcases List.mem_cons.1 hy with rfl | hy
          · exact q
          · exact h3 y hy
    obtain ⟨k, r, h1, h2, h3⟩ := key rs h
    exact ⟨k, r, h1, h2, atR_hit h1 h2 h3, h3⟩
  · left
    have h2 : ∀ x ∈ rs, x.f ≠ f := fun x hx e => h ⟨x, hx, e⟩
    exact ⟨h2, atR_miss h2⟩
set_option maxRecDepth 100000 in
set_option maxHeartbeats 4000000 in
theorem peek21 {T : Nat → Prop} {W : World} {wb ph mo c : Nat} {A : Option Addr} {rs : List Rr} {f : Fp} (h : Ref T W wb ph mo A c rs) (hf : IsFp f) :
    Calls Try.prog 21 #[.pointer (some ⟨wb, 0, none⟩), .agg (fpL f).toArray] W fun r W' => ∃ B d, r = .returned (.slice B (peekA (abR rs) f).length d) ∧ IdsT T W' B (peekA (abR rs) f) ∧ (peekA (abR rs) f).length ≤ d ∧ Below W.heap.size W W' ∧ ∀ W0 A0 c0, Ref T W0 wb ph mo A0 c0 rs → IdsT T W0 B (peekA (abR rs) f) := by
  have HB0 : Hid (Below W.heap.size W (W.alloc (.cells (fpL f).toArray 47))) := Lib.hid ((Below.refl _ _).alloc (Nat.le_refl _) _)
  have HC := Lib.hid (at36 (h.below HB0.out) hf)
  obtain ⟨b0, hb0⟩ : ∃ b0, b0 = W.heap.size := ⟨_, rfl⟩
  have HR0 : Hid ((W.alloc (.cells (fpL f).toArray 47)).rangeAt b0 0 (fpL f)) := Lib.hid (box_range (by rw [hb0]; exact heap_alloc_new _ _))
  have HH := Lib.hid (h.below HB0.out)
  have HIX := Lib.hid (info29f hf)
  have hnum := h.num
  clear h hf
  go_enter Try.func21, Try.ntmps21
  go_upto_region 1 with fail
  rw [← hb0]
  clear hb0
  generalize W.alloc (.cells (fpL f).toArray 47) = W1 at *
  rcases at_cases rs f with ⟨hno, hi⟩ | ⟨k, r, hk, he, hi, hn⟩
  · have HP := Lib.hid (peekR_none hno)
    rw [hi] at HC
    clear hno hi
    go_wp2_with ((with_reducible refine wpList_load_mid (op := ⟨some 7, _, _, _, _, _⟩) rfl 47 (.tmp 3) rfl b0 0 ?_ (fpL f) _ HR0.out Try.underlying47 rfl HIX.out ?_); rfl)
    refine Calls.mono HC.out ?_
    rintro _ W2 ⟨rfl, hb⟩
    have HB2 := Lib.hid (HB0.out.trans (hb.mono HB0.out.size))
    clear hb HC
    go_wp2_with fail
    go_ret
    exact ⟨none, 0, by rw [HP.out]; rfl, by rw [HP.out]; exact fun q => absurd rfl q, by rw [HP.out]; exact Nat.le_refl _, HB2.out, fun W0 A0 c0 _ => by rw [HP.out]; exact fun q => absurd rfl q⟩
  · have HP := Lib.hid (peekR_hit hk he hn)
    rw [hi] at HC
    have HRK := Lib.hid hk
    have hlt := (List.getElem?_eq_some_iff.1 hk).1
    have hk0 : ¬ (k : Int) < 0 := by omega
    have hk00 : (0 : Int) ≤ (k : Int) := by omega
    have hk1 : (k : Int) < (rs.length : Int) := by omega
    clear hk he hn hi
    go_wp2_with ((with_reducible refine wpList_load_mid (op := ⟨some 7, _, _, _, _, _⟩) rfl 47 (.tmp 3) rfl b0 0 ?_ (fpL f) _ HR0.out Try.underlying47 rfl HIX.out ?_); rfl)
    refine Calls.mono HC.out ?_
    rintro _ W2 ⟨rfl, hb⟩
    have HB2 := Lib.hid (HB0.out.trans (hb.mono HB0.out.size))
    have HH2 := Lib.hid (HH.out.below hb)
    clear hb HC
    obtain ⟨ab, ao, rfl, _, _, cr, _⟩ := HH2.out.get HRK.out
    have c2 := HH2.out.c.2.2
    have HOK := Lib.hid (HH2.out.ok r (List.mem_of_getElem? HRK.out))
    go_wp2_with fail
    go_ret
    exact ⟨r.A, r.c, by rw [HP.out]; rfl, by rw [HP.out]; exact HOK.out.ids, by rw [HP.out]; exact HOK.out.cap, HB2.out, fun W0 A0 c0 h0 => by rw [HP.out]; exact (h0.ok r (List.mem_of_getElem? HRK.out)).ids⟩
theorem lnA_take {rs : List Rr} {k : Nat} {r : Rr} (h : rs[k]? = some r) : lnA (abR (rs.take (k + 1))) = lnA (abR (rs.take k)) + r.l.length := by
  rw [List.take_add_one, h]
  unfold abR
  rw [List.map_append, lnA_app]
  simp [lnA]
theorem lnA_bound {T : Nat → Prop} {W : World} {wb ph mo c : Nat} {A : Option Addr} {rs : List Rr} (h : Ref T W wb ph mo A c rs) : ∀ k, lnA (abR (rs.take k)) ≤ k * 100
  | 0 => by simp [abR, lnA]
  | k + 1 => by
    have ih := lnA_bound h k
    by_cases hk : k < rs.length
    · have := lnA_take (List.getElem?_eq_getElem hk)
      have := (h.ok rs[k] (List.getElem_mem hk)).len
      omega
    · rw [List.take_of_length_le (by omega)] at ih ⊢
      omega
set_option maxRecDepth 100000 in
set_option maxHeartbeats 4000000 in
theorem len25 {T : Nat → Prop} {W : World} {wb ph mo c : Nat} {A : Option Addr} {rs : List Rr} (h : Ref T W wb ph mo A c rs) :
    Calls Try.prog 25 #[.pointer (some ⟨wb, 0, none⟩)] W fun r W' => r = .returned (.int .i64 (lnA (abR rs) : Nat)) ∧ W' = W := by
  have HH := Lib.hid h
  have HBD := Lib.hid (lnA_bound h)
  have hnum := h.num
  have c2 := h.c.2.2
  clear h
  go_enter Try.func25, Try.ntmps25
  go_wp2_with fail
  go_loopg [3, 4] rs.length (fun gk nv i wr => ∃ k : Nat, k ≤ rs.length ∧ gk = rs.length - k ∧ i = .int .i64 k ∧ nv = .int .i64 (lnA (abR (rs.take k)) : Nat) ∧ wr = W)
  case atStart => exact ⟨0, Nat.zero_le _, rfl, rfl, rfl, rfl⟩
  case round =>
    obtain ⟨k, hk, hgk, rfl, rfl, rfl⟩ := hrel
    have HK := Lib.hid hgk
    clear hgk
    have hk0 : (0 : Int) ≤ (k : Int) := by omega
    have hbk := HBD.out k
    by_cases hlt : k < rs.length
    · obtain ⟨r, hr⟩ : ∃ r, rs[k]? = some r := ⟨_, List.getElem?_eq_getElem hlt⟩
      obtain ⟨ab, ao, rfl, _, _, cr, _⟩ := HH.out.get hr
      have HLT := Lib.hid (lnA_take hr)
      have hrl := (HH.out.ok r (List.mem_of_getElem? hr)).len
      have hk1 : (k : Int) < (rs.length : Int) := by omega
      clear hr
      generalize lnA (abR (rs.take k)) = N at *
      go_wp2_with fail
      go_roundg (rs.length - (k + 1))
      case measure => rw [HK.out]; omega
      case rel => exact ⟨k + 1, by omega, rfl, by go_num, by rw [HLT.out]; go_num, rfl⟩
    · obtain rfl : k = rs.length := by omega
      have HE : Hid (lnA (abR (rs.take rs.length)) = lnA (abR rs)) := Lib.hid (by rw [List.take_length])
      rw [HE.out] at hbk ⊢
      go_wp2_with fail
      go_ret
      exact ⟨rfl, rfl⟩
end Go.Proofs.Ytnpgfhoagpeelaa
