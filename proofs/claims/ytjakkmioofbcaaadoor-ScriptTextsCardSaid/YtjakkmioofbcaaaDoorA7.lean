/- The walks over the reference's text, size. -/
import Derived.Test.YtjakkmioofbcaaaDoorA6
import Derived.Deep.RegionHeld3
import Derived.Maps.AppendAt
namespace Go.Proofs.YtjakkmioofbcaaaDoor
open Go.RowKit
/-- an append whose run is known -/
theorem op_append_run {P : Program} {w w' : World} {o : Oper} {a : Act} {K : Act → World → Prop} {Q : Exit → Act → World → Prop} (s x : Operand) (t : TypeId) (ho : o.op = .call { callee := .builtin .append, args := #[s, x], argTypes := #[t, t] }) {v y v' : Value} (hs : a.eval s = v) (hx : a.eval x = y)
    (hr : (Builtin.append_ #[t, t] o.type #[v, y]).run P w = .ok v' w') (hK : K (a.put o.dst v') w') : Oper.wp P o a w K Q := by
  unfold Oper.wp execOp
  simp only [ho, resolve, invoke, builtin, Sem.run_bind, Sem.run_pure, Result.andThen_ok, List.map_toArray, List.map_cons, List.map_nil, hs, hx, hr]
  exact hK
theorem if_yes {c : Bool} {A B : Prop} (h : c = true) (hA : A) : if c = true then A else B := by rw [if_pos h]; exact hA
def rtxtGo : List UInt8 → List UInt8
  | a :: b :: r => UInt8.ofNat (16 * rval a + rval b) :: rtxtGo r
  | _ => []
set_option maxRecDepth 100000 in
set_option maxHeartbeats 400000 in
theorem rtext35 (l : List UInt8) (hl : l.length ≤ 1000000) (w : World) : Calls Tryd.prog 71 #[.string (str l)] w fun e w' => e = .returned (.string (str (rtxtGo l))) ∧ Below w.heap.size w w' := by
  have hlz : (str l).size = l.length := str_size l
  obtain ⟨i0, hi, hz0, hz1, hz2⟩ := info_parts info5
  have I0 := Lib.hid hi
  have Z0 := Lib.hid hz0
  have S0 := Lib.hid hz1
  have Y0 := Lib.hid hz2
  clear hi hz0 hz1 hz2
  go_enter Tryd.func71, Tryd.ntmps71
  go_wp2_with fail
  go_loopg [3, 4] l.length (fun gk v i wr => ∃ (p : Nat) (acc : List UInt8), p ≤ l.length ∧ gk = l.length - p ∧ p = 2 * acc.length ∧ i = .int .i64 (p : Int) ∧ Below w.heap.size w wr ∧ wr.ownsRow w.heap.size 5 1 v acc.length (bytesV acc) ∧ rtxtGo l = acc ++ rtxtGo (l.drop p))
  case atStart => exact ⟨0, [], Nat.zero_le _, rfl, rfl, rfl, Below.refl _ _, World.ownsRow_nil _ _ _ _, by simp⟩
  case round =>
    obtain ⟨p, acc, hk, hgk, hal, rfl, hb, hr, hc⟩ := hrel
    obtain ⟨AA, ac, hv⟩ := own_slice hr
    subst hv
    have HK := Lib.hid hgk
    have HB := Lib.hid hb
    have HR := Lib.hid hr
    have HC := Lib.hid hc
    have HA := Lib.hid hal
    have hcv := conv_own hr
    clear hgk hb hr hc hal
    by_cases hlt : p + 1 < l.length
    · have q0 : (p : Int) < (l.length : Int) := by omega
      have q2 : (p : Int) + 1 < (l.length : Int) := by omega
      have e1 : ((str l).toList == [45]) = false := by
        rw [str_toList]
        apply beq_eq_false_iff_ne.2
        rintro rfl
        simp at hlt
      have hg0 := str_get l p (by omega) (by rw [hlz]; omega)
      have hg1 := str_get l (p + 1) (by omega) (by rw [hlz]; omega)
      have HD : Hid (l.drop p = l[p]'(by omega) :: l[p + 1]'(by omega) :: l.drop (p + 2)) := Lib.hid (by rw [drop_at l p (by omega), drop_at l (p + 1) (by omega)])
      obtain ⟨x, hx⟩ : ∃ x, l[p]'(by omega) = x := ⟨_, rfl⟩
      obtain ⟨y, hy⟩ : ∃ y, l[p + 1]'(by omega) = y := ⟨_, rfl⟩
      rw [hx] at hg0 HD
      rw [hy] at hg1 HD
      clear hx hy
      have a16 := rval_lt x
      have b16 := rval_lt y
      have q3 : (0 : Int) ≤ (p : Int) + 1 := by omega
      have hw1 : IntKind.i64.wrap ((p : Int) + 1) = (p : Int) + 1 := IntWalk.i64_in _ (by omega)
      have hw2 : IntKind.i64.wrap (16 * (rval x : Int)) = 16 * (rval x : Int) := IntWalk.i64_in _ (by omega)
      have hw3 : IntKind.i64.wrap (16 * (rval x : Int) + (rval y : Int)) = 16 * (rval x : Int) + (rval y : Int) := IntWalk.i64_in _ (by omega)
      have hw4 : IntKind.u8.wrap (16 * (rval x : Int) + (rval y : Int)) = 16 * (rval x : Int) + (rval y : Int) := by rw [IntKind.wrap_u8]; omega
      have HX : Hid (bytesV (acc ++ [UInt8.ofNat (16 * rval x + rval y)]) = bytesV acc ++ [.int .u8 (16 * (rval x : Int) + (rval y : Int))]) := Lib.hid (by
        rw [bytesV_append]
        congr 1
        simp [bytesV]
        omega)
      have HN : Hid (rtxtGo l = (acc ++ [UInt8.ofNat (16 * rval x + rval y)]) ++ rtxtGo (l.drop (p + 2))) := Lib.hid (by
        rw [HC.out, HD.out, rtxtGo]
        simp)
      have HR1 : Hid ((wr.drew.alloc (.cells #[.int .u8 (16 * (rval x : Int) + (rval y : Int))] 5)).ownsRow w.heap.size 5 1 (.slice AA acc.length ac) acc.length (bytesV acc)) := Lib.hid (World.ownsRow.alloc (w := wr.drew) HR.out _)
      have HB1 : Hid (Below w.heap.size w (wr.drew.alloc (.cells #[.int .u8 (16 * (rval x : Int) + (rval y : Int))] 5))) := Lib.hid ((below_drew HB.out).alloc HB.out.size _)
      obtain ⟨v', w2, hr, hown', hgrow, _, _⟩ := run_append_own_at (P := Tryd.prog) (wr.drew.alloc (.cells #[.int .u8 (16 * (rval x : Int) + (rval y : Int))] 5)) w.heap.size 70 70 5 i0 _ 1 1 Tryd.underlying70 I0.out Z0.out S0.out Y0.out rfl (by decide) _ _ _ HR1.out ⟨wr.heap.size, 0, none⟩ 1 1 [.int .u8 (16 * (rval x : Int) + (rval y : Int))] rfl (new1 _ _ _ _ rfl) (by simp [Value.oneCell']) (by have := HA.out; simp only [maxLen]; omega) (by have := HA.out; omega) HB1.out.size
      have HO := Lib.hid hown'
      have HG := Lib.hid hgrow
      have hr := hr
      clear hown' hgrow
      go_wp2_with fail
      refine wp_region_held_drew (S := fun _ => True) (by kernel_rfl) trivial (fun hSx => ?_)
      refine wpAnyH_take (i := 0) (v := .slice AA acc.length ac) rfl (by kernel_rfl) (by kernel_rfl) (by kernel_rfl) (fun _ _ _ h => h) (Or.inl ⟨by kernel_rfl, ?_⟩) hSx ?_
      · intro wx hSx2; clear hSx; go_simp
      try simp only [Act.put, List.setIfInBounds_toArray]
      refine wpAnyH_take (i := 1) (v := .string (str l)) rfl (by kernel_rfl) (by kernel_rfl) (by kernel_rfl) (fun _ _ _ h => h) (Or.inl ⟨by kernel_rfl, ?_⟩) hSx ?_
      · intro wx hSx2; clear hSx; go_simp
      try simp only [Act.put]
      refine wpAnyH_take (i := 2) (v := .int .i64 p) rfl (by kernel_rfl) (by kernel_rfl) (by kernel_rfl) (fun _ _ _ h => h) (Or.inl ⟨by kernel_rfl, ?_⟩) hSx ?_
      · intro wx hSx2; clear hSx; go_simp
      try simp only [Act.put]
      refine wpAnyH_take (i := 3) (v := .int .u8 x.toNat) rfl (by kernel_rfl) (by kernel_rfl) (by kernel_rfl) (fun _ _ _ h => h) (Or.inl ⟨by kernel_rfl, ?_⟩) hSx ?_
      · intro wx hSx2; clear hSx; go_simp
      try simp only [Act.put]
      refine wpAnyH_take (i := 6) (v := .string (str l)) rfl (by kernel_rfl) (by kernel_rfl) (by kernel_rfl) (fun _ _ _ h => h) (Or.inl ⟨by kernel_rfl, ?_⟩) hSx ?_
      · intro wx hSx2; clear hSx; go_simp
      try simp only [Act.put]
      refine wpAnyH_take (i := 7) (v := .int .i64 p) rfl (by kernel_rfl) (by kernel_rfl) (by kernel_rfl) (fun _ _ _ h => h) (Or.inl ⟨by kernel_rfl, ?_⟩) hSx ?_
      · intro wx hSx2; clear hSx; go_simp
      try simp only [Act.put]
      refine wpAnyH_take (i := 8) (v := .int .i64 ((p : Int) + 1)) rfl (by kernel_rfl) (by kernel_rfl) (by kernel_rfl) (fun _ _ _ h => h) (Or.inl ⟨by kernel_rfl, ?_⟩) hSx ?_
      · intro wx hSx2; clear hSx; go_simp
      try simp only [Act.put]
      refine wpAnyH_take (i := 9) (v := .int .u8 y.toNat) rfl (by kernel_rfl) (by kernel_rfl) (by kernel_rfl) (fun _ _ _ h => h) (Or.inl ⟨by kernel_rfl, ?_⟩) hSx ?_
      · intro wx hSx2; clear hSx; go_simp
      try simp only [Act.put]
      refine wpAnyH_ready (rs := [4]) (by kernel_rfl) (by simp) ?_
      refine AllReadyH.cons rfl (fun KK hKK => ?_) AllReadyH.nil
      go_simp
      refine Calls.mono (rvalue54 _ _) ?_
      rintro e wz ⟨rfl, rfl⟩
      refine hKK.out _ _ trivial (fun hSy => ?_)
      clear hKK hSx
      have hSx := hSy
      clear hSy KK
      try simp only [Act.put, List.setIfInBounds_toArray, List.set_cons_zero, List.set_cons_succ]
      refine wpAnyH_take (i := 5) (v := .int .i64 (16 * (rval x : Int))) rfl (by kernel_rfl) (by kernel_rfl) (by kernel_rfl) (fun _ _ _ h => h) (Or.inl ⟨by kernel_rfl, ?_⟩) hSx ?_
      · intro wx hSx2; clear hSx; go_simp
      try simp only [Act.put, List.setIfInBounds_toArray]
      refine wpAnyH_ready (rs := [10]) (by kernel_rfl) (by simp) ?_
      refine AllReadyH.cons rfl (fun KK hKK => ?_) AllReadyH.nil
      go_simp
      refine Calls.mono (rvalue54 _ _) ?_
      rintro e wz ⟨rfl, rfl⟩
      refine hKK.out _ _ trivial (fun hSy => ?_)
      clear hKK hSx
      have hSx := hSy
      clear hSy KK
      try simp only [Act.put, List.setIfInBounds_toArray, List.set_cons_zero, List.set_cons_succ]
      refine wpAnyH_take (i := 11) (v := .int .i64 (16 * (rval x : Int) + (rval y : Int))) rfl (by kernel_rfl) (by kernel_rfl) (by kernel_rfl) (fun _ _ _ h => h) (Or.inl ⟨by kernel_rfl, ?_⟩) hSx ?_
      · intro wx hSx2; clear hSx; go_simp
      try simp only [Act.put, List.setIfInBounds_toArray]
      refine wpAnyH_take (i := 12) (v := .int .u8 (16 * (rval x : Int) + (rval y : Int))) rfl (by kernel_rfl) (by kernel_rfl) (by kernel_rfl) (fun _ _ _ h => h) (Or.inl ⟨by kernel_rfl, ?_⟩) hSx ?_
      · intro wx hSx2; clear hSx; go_simp
      try simp only [Act.put]
      refine wpAnyH_ready (rs := [13]) (by kernel_rfl) (by simp) ?_
      refine AllReadyH.cons rfl (fun KK hKK => ?_) AllReadyH.nil
      go_simp
      refine hKK.out _ _ trivial (fun hSy => ?_)
      clear hKK hSx
      have hSx := hSy
      clear hSy KK
      refine wpAnyH_ready (rs := [14]) (by kernel_rfl) (by simp) ?_
      refine AllReadyH.cons rfl (fun KK hKK => ?_) AllReadyH.nil
      refine if_yes (by kernel_rfl) ?_
      refine op_append_run (.tmp 16) (.tmp 29) 70 rfl rfl rfl hr ?_
      refine hKK.out _ _ trivial (fun hSy => ?_)
      clear hKK hSx
      have hSx := hSy
      clear hSy KK
      try simp only [Act.put, List.setIfInBounds_toArray]
      refine wpAnyH_take (i := 15) (v := v') rfl (by kernel_rfl) (by kernel_rfl) (by kernel_rfl) (fun _ _ _ h => h) (Or.inl ⟨by kernel_rfl, ?_⟩) hSx ?_
      · intro wx hSx2; clear hSx; go_simp
      try simp only [Act.put]
      refine wpAnyH_done (by kernel_rfl) ?_ _
      obtain ⟨A3, ac3, hv3⟩ := own_slice HO.out
      subst hv3
      go_wp2
      go_roundg (l.length - (p + 2))
      case measure => rw [HK.out]; omega
      case rel =>
        refine ⟨p + 2, acc ++ [UInt8.ofNat (16 * rval x + rval y)], by omega, rfl, by have := HA.out; simp; omega, by go_num, HB1.out.grown HG.out HB1.out.size (fun j e => (HR1.out.lt j e).1), ?_, HN.out⟩
        rw [HX.out, List.length_append]
        exact HO.out
    · have q2 : ¬ (p : Int) + 1 < (l.length : Int) := by omega
      have HE : Hid (rtxtGo (l.drop p) = []) := Lib.hid (by
        have : (l.drop p).length ≤ 1 := by simp; omega
        match l.drop p, this with
        | [], _ => rfl
        | [_], _ => rfl)
      go_wp2
      go_ret
      exact ⟨by rw [HC.out, HE.out, List.append_nil]; rfl, HB.out⟩
end Go.Proofs.YtjakkmioofbcaaaDoor
