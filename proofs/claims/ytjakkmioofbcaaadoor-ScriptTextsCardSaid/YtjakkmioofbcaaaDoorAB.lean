/- The walk over the reference's digits. -/
import Derived.Test.YtjakkmioofbcaaaDoorAA
namespace Go.Proofs.YtjakkmioofbcaaaDoor
open Go.RowKit
theorem new2 (W : World) (a b : Value) (t : TypeId) (g : Nat) (hg : g = W.heap.size) : ∀ j u, [a, b][j]? = some u → (W.alloc (.cells #[a, b] t)).cell? ((⟨g, 0, none⟩ : Addr).add j) = some u := by
  intro j u hj
  subst hg
  have hh := heap_alloc_new W (.cells #[a, b] t)
  match j, hj with
  | 0, hj => simp at hj; subst hj; exact cell_of_row _ _ 0 _ t (0, 0) hh
  | 1, hj => simp at hj; subst hj; exact cell_of_row _ _ 1 _ t (0, 0) hh
set_option maxRecDepth 100000 in
set_option maxHeartbeats 1000000 in
theorem rdigits40 (l : List UInt8) (hl : l.length ≤ 1000000) (w : World) : Calls Tryd.prog 61 #[.string (str l)] w fun e w' => e = .returned (.string (str (dig l))) ∧ Below w.heap.size w w' := by
  have hlz : (str l).size = l.length := str_size l
  obtain ⟨i0, hi, hz0, hz1, hz2⟩ := info_parts info5
  have I0 := Lib.hid hi
  have Z0 := Lib.hid hz0
  have S0 := Lib.hid hz1
  have Y0 := Lib.hid hz2
  clear hi hz0 hz1 hz2
  go_enter Tryd.func61, Tryd.ntmps61
  go_wp2_with fail
  go_loopg [4, 5] l.length (fun gk v i wr => ∃ k : Nat, k ≤ l.length ∧ gk = l.length - k ∧ i = .int .i64 k ∧ wr.ownsRow w.heap.size 5 1 v (2 * k) (bytesV (digGo (l.take k))) ∧ Below w.heap.size w wr)
  case atStart => exact ⟨0, Nat.zero_le _, rfl, rfl, World.ownsRow_nil _ _ _ _, Below.refl _ _⟩
  case round =>
    obtain ⟨k, hk, hgk, rfl, hr, hb⟩ := hrel
    obtain ⟨k2, hk2⟩ : ∃ k2, 2 * k = k2 := ⟨_, rfl⟩
    rw [hk2] at hr
    have HK2 := Lib.hid hk2
    obtain ⟨AA, ac, hv⟩ := own_slice hr
    subst hv
    have HK := Lib.hid hgk
    have HR := Lib.hid hr
    have HB := Lib.hid hb
    clear hgk hr hb hk2
    by_cases hkl : k < l.length
    · have h1 : (k : Int) < (l.length : Int) := by omega
      have hg := str_get l k hkl (by rw [hlz]; exact hkl)
      have HT : Hid (digGo (l.take (k + 1)) = digGo (l.take k) ++ [hexd ((l[k]'hkl).toNat / 16), hexd ((l[k]'hkl).toNat % 16)]) := Lib.hid (by rw [List.take_succ_eq_append_getElem hkl, digGo_snoc])
      obtain ⟨c, hcc⟩ : ∃ c, l[k]'hkl = c := ⟨_, rfl⟩
      rw [hcc] at hg HT
      clear hcc
      have q1 : (c.toNat : Int) / 16 < 16 := by have := c.toNat_lt; omega
      have q2 : (0 : Int) ≤ (c.toNat : Int) / 16 := by omega
      have q3 : (c.toNat : Int) % 16 < 16 := by omega
      have q4 : (0 : Int) ≤ (c.toNat : Int) % 16 := by omega
      have x1 := hex_at (c.toNat / 16) (by have := c.toNat_lt; omega) (by have := c.toNat_lt; show c.toNat / 16 < 16; omega)
      have x2 := hex_at (c.toNat % 16) (by omega) (by show c.toNat % 16 < 16; omega)
      have t1 : ((c.toNat : Int) / 16).toNat = c.toNat / 16 := by omega
      have t2 : ((c.toNat : Int) % 16).toNat = c.toNat % 16 := by omega
      have t3 : IntKind.u8.wrap ((c.toNat : Int) / 16) = (c.toNat : Int) / 16 := by rw [IntKind.wrap_u8]; have := c.toNat_lt; omega
      have t4 : (c.toNat : Int).tmod 16 = (c.toNat : Int) % 16 := Int.tmod_eq_emod_of_nonneg (by omega)
      have t5 : IntKind.u8.wrap ((c.toNat : Int) % 16) = (c.toNat : Int) % 16 := by rw [IntKind.wrap_u8]; have := c.toNat_lt; omega
      have HR1 : Hid ((wr.drew.alloc (.cells #[.int .u8 (hexd (c.toNat / 16)).toNat, .int .u8 (hexd (c.toNat % 16)).toNat] 5)).ownsRow w.heap.size 5 1 (.slice AA k2 ac) k2 (bytesV (digGo (l.take k)))) := Lib.hid (World.ownsRow.alloc (w := wr.drew) HR.out _)
      have HB1 : Hid (Below w.heap.size w (wr.drew.alloc (.cells #[.int .u8 (hexd (c.toNat / 16)).toNat, .int .u8 (hexd (c.toNat % 16)).toNat] 5))) := Lib.hid ((below_drew HB.out).alloc HB.out.size _)
      obtain ⟨v', w2, hr, hown', hgrow, _, _⟩ := run_append_own_at (P := Tryd.prog) (wr.drew.alloc (.cells #[.int .u8 (hexd (c.toNat / 16)).toNat, .int .u8 (hexd (c.toNat % 16)).toNat] 5)) w.heap.size 70 70 5 i0 _ 1 1 Tryd.underlying70 I0.out Z0.out S0.out Y0.out rfl (by decide) _ _ _ HR1.out ⟨wr.heap.size, 0, none⟩ 2 2 [.int .u8 (hexd (c.toNat / 16)).toNat, .int .u8 (hexd (c.toNat % 16)).toNat] rfl (new2 _ _ _ _ _ rfl) (by simp [Value.oneCell']) (by have := HK2.out; simp only [maxLen]; omega) (by have := HK2.out; omega) HB1.out.size
      have HO := Lib.hid hown'
      have HG := Lib.hid hgrow
      clear hown' hgrow
      go_wp2_with fail
      refine wp_region_held_drew (S := fun _ => True) (by kernel_rfl) trivial (fun hSx => ?_)
      refine wpAnyH_take (i := 0) (v := .slice AA k2 ac) rfl (by kernel_rfl) (by kernel_rfl) (by kernel_rfl) (fun _ _ _ h => h) (Or.inl ⟨by kernel_rfl, ?_⟩) hSx ?_
      · intro wx hSx2; clear hSx; go_simp
      try simp only [Act.put, List.setIfInBounds_toArray]
      refine wpAnyH_take (i := 1) (v := .string ⟨#[48, 49, 50, 51, 52, 53, 54, 55, 56, 57, 97, 98, 99, 100, 101, 102]⟩) rfl (by kernel_rfl) (by kernel_rfl) (by kernel_rfl) (fun _ _ _ h => h) (Or.inl ⟨by kernel_rfl, ?_⟩) hSx ?_
      · intro wx hSx2; clear hSx; go_simp
      try simp only [Act.put]
      refine wpAnyH_take (i := 2) (v := .string (str l)) rfl (by kernel_rfl) (by kernel_rfl) (by kernel_rfl) (fun _ _ _ h => h) (Or.inl ⟨by kernel_rfl, ?_⟩) hSx ?_
      · intro wx hSx2; clear hSx; go_simp
      try simp only [Act.put]
      refine wpAnyH_take (i := 3) (v := .int .i64 k) rfl (by kernel_rfl) (by kernel_rfl) (by kernel_rfl) (fun _ _ _ h => h) (Or.inl ⟨by kernel_rfl, ?_⟩) hSx ?_
      · intro wx hSx2; clear hSx; go_simp
      try simp only [Act.put]
      refine wpAnyH_take (i := 4) (v := .int .u8 c.toNat) rfl (by kernel_rfl) (by kernel_rfl) (by kernel_rfl) (fun _ _ _ h => h) (Or.inl ⟨by kernel_rfl, ?_⟩) hSx ?_
      · intro wx hSx2; clear hSx; go_simp
      try simp only [Act.put]
      refine wpAnyH_take (i := 5) (v := .int .u8 ((c.toNat : Int) / 16)) rfl (by kernel_rfl) (by kernel_rfl) (by kernel_rfl) (fun _ _ _ h => h) (Or.inl ⟨by kernel_rfl, ?_⟩) hSx ?_
      · intro wx hSx2; clear hSx; go_simp
      try simp only [Act.put]
      refine wpAnyH_take (i := 6) (v := .int .u8 (hexd (c.toNat / 16)).toNat) rfl (by kernel_rfl) (by kernel_rfl) (by kernel_rfl) (fun _ _ _ h => h) (Or.inl ⟨by kernel_rfl, ?_⟩) hSx ?_
      · intro wx hSx2; clear hSx; go_simp
      try simp only [Act.put]
      refine wpAnyH_take (i := 7) (v := .string ⟨#[48, 49, 50, 51, 52, 53, 54, 55, 56, 57, 97, 98, 99, 100, 101, 102]⟩) rfl (by kernel_rfl) (by kernel_rfl) (by kernel_rfl) (fun _ _ _ h => h) (Or.inl ⟨by kernel_rfl, ?_⟩) hSx ?_
      · intro wx hSx2; clear hSx; go_simp
      try simp only [Act.put]
      refine wpAnyH_take (i := 8) (v := .string (str l)) rfl (by kernel_rfl) (by kernel_rfl) (by kernel_rfl) (fun _ _ _ h => h) (Or.inl ⟨by kernel_rfl, ?_⟩) hSx ?_
      · intro wx hSx2; clear hSx; go_simp
      try simp only [Act.put]
      refine wpAnyH_take (i := 9) (v := .int .i64 k) rfl (by kernel_rfl) (by kernel_rfl) (by kernel_rfl) (fun _ _ _ h => h) (Or.inl ⟨by kernel_rfl, ?_⟩) hSx ?_
      · intro wx hSx2; clear hSx; go_simp
      try simp only [Act.put]
      refine wpAnyH_take (i := 10) (v := .int .u8 c.toNat) rfl (by kernel_rfl) (by kernel_rfl) (by kernel_rfl) (fun _ _ _ h => h) (Or.inl ⟨by kernel_rfl, ?_⟩) hSx ?_
      · intro wx hSx2; clear hSx; go_simp
      try simp only [Act.put]
      refine wpAnyH_take (i := 11) (v := .int .u8 ((c.toNat : Int) % 16)) rfl (by kernel_rfl) (by kernel_rfl) (by kernel_rfl) (fun _ _ _ h => h) (Or.inl ⟨by kernel_rfl, ?_⟩) hSx ?_
      · intro wx hSx2; clear hSx; go_simp
      try simp only [Act.put]
      refine wpAnyH_take (i := 12) (v := .int .u8 (hexd (c.toNat % 16)).toNat) rfl (by kernel_rfl) (by kernel_rfl) (by kernel_rfl) (fun _ _ _ h => h) (Or.inl ⟨by kernel_rfl, ?_⟩) hSx ?_
      · intro wx hSx2; clear hSx; go_simp
      try simp only [Act.put]
      refine wpAnyH_ready (rs := [13]) (by kernel_rfl) (by simp) ?_
      refine AllReadyH.cons rfl (fun KK hKK => ?_) AllReadyH.nil
      go_simp
      refine hKK.out _ _ trivial (fun hSy => ?_)
      clear hKK hSx
      have hSx := hSy
      clear hSy KK
      refine wpAnyH_ready (rs := [14]) (by kernel_rfl) (by simp) ?_
      refine AllReadyH.cons rfl (fun KK hKK => ?_) AllReadyH.nil
      refine if_yes (by kernel_rfl) ?_
      refine op_append_run (.tmp 12) (.tmp 25) 70 rfl rfl rfl hr ?_
      refine hKK.out _ _ trivial (fun hSy => ?_)
      clear hKK hSx
      have hSx := hSy
      clear hSy KK
      try simp only [Act.put, List.setIfInBounds_toArray]
      refine wpAnyH_take (i := 15) (v := v') rfl (by kernel_rfl) (by kernel_rfl) (by kernel_rfl) (fun _ _ _ h => h) (Or.inl ⟨by kernel_rfl, ?_⟩) hSx ?_
      · intro wx hSx2; clear hSx; go_simp
      try simp only [Act.put]
      refine wpAnyH_done (by kernel_rfl) ?_ _
      obtain ⟨A3, ac3, hv3⟩ := own_slice HO.out
      subst hv3
      go_wp2
      go_roundg (l.length - (k + 1))
      case measure => rw [HK.out]; omega
      case rel =>
        refine ⟨k + 1, by omega, rfl, by go_num, ?_, HB1.out.grown HG.out HB1.out.size (fun j e => (HR1.out.lt j e).1)⟩
        rw [HT.out, bytesV_append, show 2 * (k + 1) = k2 + 2 by have := HK2.out; omega]
        exact HO.out
    · obtain rfl : k = l.length := by omega
      have HE : Hid (digGo (l.take l.length) = digGo l) := Lib.hid (by rw [List.take_length])
      have hrr := HR.out
      rw [HE.out] at hrr
      have hcv := conv_own (l := digGo l) (by rw [digGo_len, HK2.out]; exact hrr)
      clear hrr
      by_cases h0 : l = []
      · subst h0
        obtain rfl : k2 = 0 := HK2.out.symm
        go_wp2
        go_ret
        exact ⟨rfl, HB.out⟩
      · have HD : Hid (dig l = digGo l) := Lib.hid (if_neg h0)
        have hl0 : ((k2 : Int) == 0) = false := by
          have := List.length_pos_iff.2 h0
          have := HK2.out
          simp; omega
        clear h0
        go_wp2
        go_ret
        exact ⟨by rw [HD.out]; rfl, HB.out⟩
end Go.Proofs.YtjakkmioofbcaaaDoor
