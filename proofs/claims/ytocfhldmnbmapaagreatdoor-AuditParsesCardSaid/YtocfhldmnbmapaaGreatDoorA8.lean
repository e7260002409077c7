/- The walk over text. -/
import Derived.Test.YtocfhldmnbmapaaGreatDoorA6
namespace Go.Proofs.YtocfhldmnbmapaaGreatDoor
open Go.RowKit
def val (c : UInt8) : Int := Lib.indexByte figs c
theorem val_fin : ∀ n : Fin 256, (-1 ≤ val (UInt8.ofNat n.1) ∧ val (UInt8.ofNat n.1) < 16) ∧ hexV (UInt8.ofNat n.1) = (if val (UInt8.ofNat n.1) < 0 then none else some (val (UInt8.ofNat n.1)).toNat) := by decide +kernel
theorem val_all (c : UInt8) : (-1 ≤ val c ∧ val c < 16) ∧ hexV c = (if val c < 0 then none else some (val c).toNat) := by
  have h := val_fin ⟨c.toNat, c.toNat_lt⟩
  simp only [UInt8.ofNat_toNat] at h
  exact h
theorem index72 (c : UInt8) (w : World) : Calls Tryz.prog 72 #[.string ⟨#[48, 49, 50, 51, 52, 53, 54, 55, 56, 57, 97, 98, 99, 100, 101, 102]⟩, .int .u8 (c.toNat : Int)] w fun e w' => e = .returned (.int .i64 (val c)) ∧ w' = w := by
  have h := Tryz.strings_IndexByte (str figs) (c.toNat : Int) w
  have hv : Lib.indexByte (str figs).data.toList ((c.toNat : Int).toNat.toUInt8) = val c := by simp [val, str]
  rw [hv] at h
  exact h
theorem unhex_bad {x y : UInt8} {r : List UInt8} (h : val x < 0 ∨ val y < 0) : unhex (x :: y :: r) = none := by
  rw [unhex, (val_all x).2, (val_all y).2]
  rcases h with h | h
  · rw [if_pos h]
  · rw [if_pos h]
    generalize (if val x < 0 then none else some (val x).toNat) = o
    cases o <;> rfl
theorem unhex_good {x y : UInt8} {r : List UInt8} {a b : Nat} (hx : val x = (a : Nat)) (hy : val y = (b : Nat)) : unhex (x :: y :: r) = (unhex r).map (UInt8.ofNat (a * 16 + b) :: ·) := by
  rw [unhex, (val_all x).2, (val_all y).2, hx, hy, if_neg (by omega), if_neg (by omega)]
  simp only [Int.toNat_natCast]
  cases unhex r <;> rfl
theorem or_fin : ∀ a b : Fin 16, bits BinOp.or IntKind.i64 ((a.1 : Int) * 16) (b.1 : Int) = (a.1 : Int) * 16 + (b.1 : Int) := by decide +kernel
def TextPost (l : List UInt8) (w : World) (e : Ending) (w' : World) : Prop := ∃ (t : List UInt8) (b : Bool), e = .returned (.tuple #[.string (str t), .bool b]) ∧ (b = true → unhex l = some t) ∧ (b = false → unhex l = none) ∧ t.length ≤ 1000000 ∧ Below w.heap.size w w'
set_option maxRecDepth 100000 in
set_option maxHeartbeats 1000000 in
theorem text40 (l : List UInt8) (hl : l.length ≤ 1000000) (w : World) : Calls Tryz.prog 40 #[.string (str l)] w (TextPost l w) := by
  have hlz : (str l).size = l.length := str_size l
  obtain ⟨i0, hi, hz0, hz1, hz2⟩ := info_parts info5
  have I0 := Lib.hid hi
  have Z0 := Lib.hid hz0
  have S0 := Lib.hid hz1
  have Y0 := Lib.hid hz2
  clear hi hz0 hz1 hz2
  go_enter Tryz.func40, Tryz.ntmps40
  go_wp2_with fail
  go_loopg [4, 5] l.length (fun gk v i wr => ∃ (p : Nat) (acc : List UInt8), p ≤ l.length ∧ gk = l.length - p ∧ p = 2 * acc.length ∧ i = .int .i64 (p : Int) ∧ Below w.heap.size w wr ∧ wr.ownsRow w.heap.size 5 1 v acc.length (bytesV acc) ∧ unhex l = (unhex (l.drop p)).map (acc ++ ·))
  case atStart => exact ⟨0, [], Nat.zero_le _, rfl, rfl, rfl, Below.refl _ _, World.ownsRow_nil _ _ _ _, by simp⟩
  case round =>
    obtain ⟨p, acc, hk, hgk, hal, rfl, hb, hr, hc⟩ := hrel
    obtain ⟨AA, ac, rfl⟩ := own_slice hr
    have HK := Lib.hid hgk
    have HB := Lib.hid hb
    have HR := Lib.hid hr
    have HC := Lib.hid hc
    have HA := Lib.hid hal
    have hw1 : IntKind.i64.wrap ((p : Int) + 1) = (p : Int) + 1 := IntWalk.i64_in _ (by omega)
    have q3 : (0 : Int) ≤ (p : Int) + 1 := by omega
    clear hgk hb hc hal
    by_cases hlt : p + 1 < l.length
    · clear hr
      have q0 : (p : Int) < (l.length : Int) := by omega
      have q2 : (p : Int) + 1 < (l.length : Int) := by omega
      have hg0 := str_get l p (by omega) (by rw [hlz]; omega)
      have hg1 := str_get l (p + 1) (by omega) (by rw [hlz]; omega)
      have HD : Hid (l.drop p = l[p]'(by omega) :: l[p + 1]'(by omega) :: l.drop (p + 2)) := Lib.hid (by rw [drop_at l p (by omega), drop_at l (p + 1) (by omega)])
      obtain ⟨x, hx⟩ : ∃ x, l[p]'(by omega) = x := ⟨_, rfl⟩
      obtain ⟨y, hy⟩ : ∃ y, l[p + 1]'(by omega) = y := ⟨_, rfl⟩
      rw [hx] at hg0 HD
      rw [hy] at hg1 HD
      clear hx hy
      have HX := Lib.hid (index72 x)
      have HY := Lib.hid (index72 y)
      have HBD : Hid (Below w.heap.size w wr.drew) := Lib.hid (below_drew HB.out)
      have HRD : Hid (wr.drew.ownsRow w.heap.size 5 1 (.slice AA acc.length ac) acc.length (bytesV acc)) := Lib.hid HR.out
      by_cases hv : val x < 0 ∨ val y < 0
      · have HN : Hid (unhex l = none) := Lib.hid (by rw [HC.out, HD.out, unhex_bad hv]; rfl)
        have HFIN : Hid (TextPost l w (.returned (.tuple #[.string (str []), .bool false])) wr.drew) := Lib.hid ⟨[], false, rfl, (fun q => by cases q), fun _ => HN.out, Nat.zero_le _, HBD.out⟩
        rw [show str [] = ⟨#[]⟩ from rfl] at HFIN
        by_cases hv1 : val x < 0
        · generalize val x = vx at *
          generalize val y = vy at *
          go_wp2_with fail
          refine wp_region_held_drew (S := (fun _ => True)) (by kernel_rfl) ?_ (fun hSx => ?_)
          · trivial
          refine wpAnyH_take (i := 0) (oi := ⟨some 15, _, _, _, _, none⟩) (v := ?_) rfl (by kernel_rfl) (by kernel_rfl) (by kernel_rfl) (fun _ _ _ h => h) (Or.inl ⟨by kernel_rfl, ?_⟩) hSx ?_
          rotate_left 1
          focus (intro wx hSw; obtain ⟨⟩ := hSw; go_simp; first | done | with_reducible rfl)
          try simp only [Act.put, List.setIfInBounds_toArray, List.set_cons_zero, List.set_cons_succ]
          refine wpAnyH_take (i := 1) (oi := ⟨some 16, _, _, _, _, none⟩) (v := ?_) rfl (by kernel_rfl) (by kernel_rfl) (by kernel_rfl) (fun _ _ _ h => h) (Or.inl ⟨by kernel_rfl, ?_⟩) hSx ?_
          rotate_left 1
          focus (intro wx hSw; obtain ⟨⟩ := hSw; go_simp; first | done | with_reducible rfl)
          try simp only [Act.put, List.setIfInBounds_toArray, List.set_cons_zero, List.set_cons_succ]
          refine wpAnyH_take (i := 2) (oi := ⟨some 17, _, _, _, _, none⟩) (v := ?_) rfl (by kernel_rfl) (by kernel_rfl) (by kernel_rfl) (fun _ _ _ h => h) (Or.inl ⟨by kernel_rfl, ?_⟩) hSx ?_
          rotate_left 1
          focus (intro wx hSw; obtain ⟨⟩ := hSw; go_simp; first | done | with_reducible rfl)
          try simp only [Act.put, List.setIfInBounds_toArray, List.set_cons_zero, List.set_cons_succ]
          refine wpAnyH_take (i := 4) (oi := ⟨some 19, _, _, _, _, none⟩) (v := ?_) rfl (by kernel_rfl) (by kernel_rfl) (by kernel_rfl) (fun _ _ _ h => h) (Or.inl ⟨by kernel_rfl, ?_⟩) hSx ?_
          rotate_left 1
          focus (intro wx hSw; obtain ⟨⟩ := hSw; go_simp; first | done | with_reducible rfl)
          try simp only [Act.put, List.setIfInBounds_toArray, List.set_cons_zero, List.set_cons_succ]
          refine wpAnyH_take (i := 5) (oi := ⟨some 20, _, _, _, _, none⟩) (v := ?_) rfl (by kernel_rfl) (by kernel_rfl) (by kernel_rfl) (fun _ _ _ h => h) (Or.inl ⟨by kernel_rfl, ?_⟩) hSx ?_
          rotate_left 1
          focus (intro wx hSw; obtain ⟨⟩ := hSw; go_simp; first | done | with_reducible rfl)
          try simp only [Act.put, List.setIfInBounds_toArray, List.set_cons_zero, List.set_cons_succ]
          refine wpAnyH_take (i := 6) (oi := ⟨some 21, _, _, _, _, none⟩) (v := ?_) rfl (by kernel_rfl) (by kernel_rfl) (by kernel_rfl) (fun _ _ _ h => h) (Or.inl ⟨by kernel_rfl, ?_⟩) hSx ?_
          rotate_left 1
          focus (intro wx hSw; obtain ⟨⟩ := hSw; go_simp; first | done | with_reducible rfl)
          try simp only [Act.put, List.setIfInBounds_toArray, List.set_cons_zero, List.set_cons_succ]
          refine wpAnyH_take (i := 7) (oi := ⟨some 22, _, _, _, _, none⟩) (v := ?_) rfl (by kernel_rfl) (by kernel_rfl) (by kernel_rfl) (fun _ _ _ h => h) (Or.inl ⟨by kernel_rfl, ?_⟩) hSx ?_
          rotate_left 1
          focus (intro wx hSw; obtain ⟨⟩ := hSw; go_simp; first | done | with_reducible rfl)
          try simp only [Act.put, List.setIfInBounds_toArray, List.set_cons_zero, List.set_cons_succ]
          refine wpAnyH_ready (rs := [3]) (by kernel_rfl) (by simp) ?_
          refine AllReadyH.cons (o := ⟨some 18, _, _, _, _, none⟩) rfl (fun KK hKK => ?_) AllReadyH.nil
          go_simp
          with_reducible refine Calls.mono (HX.out _) ?_
          rintro e z1 ⟨rfl, rfl⟩
          refine hKK.out _ _ (trivial) (fun hSy => ?_)
          clear hKK hSx
          have hSx := hSy
          clear hSy KK
          try simp only [Act.put, List.setIfInBounds_toArray, List.set_cons_zero, List.set_cons_succ]
          refine wpAnyH_ready (rs := [8]) (by kernel_rfl) (by simp) ?_
          refine AllReadyH.cons (o := ⟨some 23, _, _, _, _, none⟩) rfl (fun KK hKK => ?_) AllReadyH.nil
          go_simp
          with_reducible refine Calls.mono (HY.out _) ?_
          rintro e z2 ⟨rfl, rfl⟩
          refine hKK.out _ _ (trivial) (fun hSy => ?_)
          clear hKK hSx
          have hSx := hSy
          clear hSy KK
          try simp only [Act.put, List.setIfInBounds_toArray, List.set_cons_zero, List.set_cons_succ]
          refine wpAnyH_take (i := 9) (oi := ⟨some 6, _, _, _, _, none⟩) (v := ?_) rfl (by kernel_rfl) (by kernel_rfl) (by kernel_rfl) (fun _ _ _ h => h) (Or.inl ⟨by kernel_rfl, ?_⟩) hSx ?_
          rotate_left 1
          focus (intro wx hSw; obtain ⟨⟩ := hSw; go_simp; first | done | with_reducible rfl)
          try simp only [Act.put, List.setIfInBounds_toArray, List.set_cons_zero, List.set_cons_succ]
          refine wpAnyH_take (i := 10) (oi := ⟨some 7, _, _, _, _, none⟩) (v := ?_) rfl (by kernel_rfl) (by kernel_rfl) (by kernel_rfl) (fun _ _ _ h => h) (Or.inl ⟨by kernel_rfl, ?_⟩) hSx ?_
          rotate_left 1
          focus (intro wx hSw; obtain ⟨⟩ := hSw; go_simp; first | done | with_reducible rfl)
          try simp only [Act.put, List.setIfInBounds_toArray, List.set_cons_zero, List.set_cons_succ]
          refine wpAnyH_done (by kernel_rfl) ?_ _
          clear hSx
          go_wp2_with fail
          go_ret2
          exact HFIN.out
        · have hv2 : val y < 0 := hv.resolve_left hv1
          generalize val x = vx at *
          generalize val y = vy at *
          go_wp2_with fail
          refine wp_region_held_drew (S := (fun _ => True)) (by kernel_rfl) ?_ (fun hSx => ?_)
          · trivial
          refine wpAnyH_take (i := 0) (oi := ⟨some 15, _, _, _, _, none⟩) (v := ?_) rfl (by kernel_rfl) (by kernel_rfl) (by kernel_rfl) (fun _ _ _ h => h) (Or.inl ⟨by kernel_rfl, ?_⟩) hSx ?_
          rotate_left 1
          focus (intro wx hSw; obtain ⟨⟩ := hSw; go_simp; first | done | with_reducible rfl)
          try simp only [Act.put, List.setIfInBounds_toArray, List.set_cons_zero, List.set_cons_succ]
          refine wpAnyH_take (i := 1) (oi := ⟨some 16, _, _, _, _, none⟩) (v := ?_) rfl (by kernel_rfl) (by kernel_rfl) (by kernel_rfl) (fun _ _ _ h => h) (Or.inl ⟨by kernel_rfl, ?_⟩) hSx ?_
          rotate_left 1
          focus (intro wx hSw; obtain ⟨⟩ := hSw; go_simp; first | done | with_reducible rfl)
          try simp only [Act.put, List.setIfInBounds_toArray, List.set_cons_zero, List.set_cons_succ]
          refine wpAnyH_take (i := 2) (oi := ⟨some 17, _, _, _, _, none⟩) (v := ?_) rfl (by kernel_rfl) (by kernel_rfl) (by kernel_rfl) (fun _ _ _ h => h) (Or.inl ⟨by kernel_rfl, ?_⟩) hSx ?_
          rotate_left 1
          focus (intro wx hSw; obtain ⟨⟩ := hSw; go_simp; first | done | with_reducible rfl)
          try simp only [Act.put, List.setIfInBounds_toArray, List.set_cons_zero, List.set_cons_succ]
          refine wpAnyH_take (i := 4) (oi := ⟨some 19, _, _, _, _, none⟩) (v := ?_) rfl (by kernel_rfl) (by kernel_rfl) (by kernel_rfl) (fun _ _ _ h => h) (Or.inl ⟨by kernel_rfl, ?_⟩) hSx ?_
          rotate_left 1
          focus (intro wx hSw; obtain ⟨⟩ := hSw; go_simp; first | done | with_reducible rfl)
          try simp only [Act.put, List.setIfInBounds_toArray, List.set_cons_zero, List.set_cons_succ]
          refine wpAnyH_take (i := 5) (oi := ⟨some 20, _, _, _, _, none⟩) (v := ?_) rfl (by kernel_rfl) (by kernel_rfl) (by kernel_rfl) (fun _ _ _ h => h) (Or.inl ⟨by kernel_rfl, ?_⟩) hSx ?_
          rotate_left 1
          focus (intro wx hSw; obtain ⟨⟩ := hSw; go_simp; first | done | with_reducible rfl)
          try simp only [Act.put, List.setIfInBounds_toArray, List.set_cons_zero, List.set_cons_succ]
          refine wpAnyH_take (i := 6) (oi := ⟨some 21, _, _, _, _, none⟩) (v := ?_) rfl (by kernel_rfl) (by kernel_rfl) (by kernel_rfl) (fun _ _ _ h => h) (Or.inl ⟨by kernel_rfl, ?_⟩) hSx ?_
          rotate_left 1
          focus (intro wx hSw; obtain ⟨⟩ := hSw; go_simp; first | done | with_reducible rfl)
          try simp only [Act.put, List.setIfInBounds_toArray, List.set_cons_zero, List.set_cons_succ]
          refine wpAnyH_take (i := 7) (oi := ⟨some 22, _, _, _, _, none⟩) (v := ?_) rfl (by kernel_rfl) (by kernel_rfl) (by kernel_rfl) (fun _ _ _ h => h) (Or.inl ⟨by kernel_rfl, ?_⟩) hSx ?_
          rotate_left 1
          focus (intro wx hSw; obtain ⟨⟩ := hSw; go_simp; first | done | with_reducible rfl)
          try simp only [Act.put, List.setIfInBounds_toArray, List.set_cons_zero, List.set_cons_succ]
          refine wpAnyH_ready (rs := [3]) (by kernel_rfl) (by simp) ?_
          refine AllReadyH.cons (o := ⟨some 18, _, _, _, _, none⟩) rfl (fun KK hKK => ?_) AllReadyH.nil
          go_simp
          with_reducible refine Calls.mono (HX.out _) ?_
          rintro e z1 ⟨rfl, rfl⟩
          refine hKK.out _ _ (trivial) (fun hSy => ?_)
          clear hKK hSx
          have hSx := hSy
          clear hSy KK
          try simp only [Act.put, List.setIfInBounds_toArray, List.set_cons_zero, List.set_cons_succ]
          refine wpAnyH_ready (rs := [8]) (by kernel_rfl) (by simp) ?_
          refine AllReadyH.cons (o := ⟨some 23, _, _, _, _, none⟩) rfl (fun KK hKK => ?_) AllReadyH.nil
          go_simp
          with_reducible refine Calls.mono (HY.out _) ?_
          rintro e z2 ⟨rfl, rfl⟩
          refine hKK.out _ _ (trivial) (fun hSy => ?_)
          clear hKK hSx
          have hSx := hSy
          clear hSy KK
          try simp only [Act.put, List.setIfInBounds_toArray, List.set_cons_zero, List.set_cons_succ]
          refine wpAnyH_take (i := 9) (oi := ⟨some 6, _, _, _, _, none⟩) (v := ?_) rfl (by kernel_rfl) (by kernel_rfl) (by kernel_rfl) (fun _ _ _ h => h) (Or.inl ⟨by kernel_rfl, ?_⟩) hSx ?_
          rotate_left 1
          focus (intro wx hSw; obtain ⟨⟩ := hSw; go_simp; first | done | with_reducible rfl)
          try simp only [Act.put, List.setIfInBounds_toArray, List.set_cons_zero, List.set_cons_succ]
          refine wpAnyH_take (i := 10) (oi := ⟨some 7, _, _, _, _, none⟩) (v := ?_) rfl (by kernel_rfl) (by kernel_rfl) (by kernel_rfl) (fun _ _ _ h => h) (Or.inl ⟨by kernel_rfl, ?_⟩) hSx ?_
          rotate_left 1
          focus (intro wx hSw; obtain ⟨⟩ := hSw; go_simp; first | done | with_reducible rfl)
          try simp only [Act.put, List.setIfInBounds_toArray, List.set_cons_zero, List.set_cons_succ]
          refine wpAnyH_done (by kernel_rfl) ?_ _
          clear hSx
          go_wp2_with fail
          go_ret2
          exact HFIN.out
      · obtain ⟨a, ha⟩ : ∃ a : Nat, val x = (a : Nat) := ⟨(val x).toNat, by omega⟩
        obtain ⟨b, hbb⟩ : ∃ b : Nat, val y = (b : Nat) := ⟨(val y).toNat, by omega⟩
        have a16 : a < 16 := by have := (val_all x).1; omega
        have b16 : b < 16 := by have := (val_all y).1; omega
        have HN : Hid (unhex l = (unhex (l.drop (p + 2))).map ((acc ++ [UInt8.ofNat (a * 16 + b)]) ++ ·)) := Lib.hid (by
          rw [HC.out, HD.out, unhex_good ha hbb, Option.map_map]
          congr 1
          funext z
          simp)
        rw [ha] at HX
        rw [hbb] at HY
        clear hv ha hbb
        obtain ⟨z, hz⟩ : ∃ z : UInt8, z = UInt8.ofNat (a * 16 + b) := ⟨_, rfl⟩
        have hzn : (z.toNat : Int) = (a : Int) * 16 + b := by
          rw [hz, UInt8.toNat_ofNat']
          have : (a * 16 + b) % 2 ^ 8 = a * 16 + b := Nat.mod_eq_of_lt (by omega)
          omega
        rw [← hz] at HN
        have ho : bits BinOp.or IntKind.i64 ((a : Int) * 16) (b : Int) = (z.toNat : Int) := by rw [hzn]; exact or_fin ⟨a, a16⟩ ⟨b, b16⟩
        have hm : (z.toNat : Int) % 256 = (z.toNat : Int) := by omega
        have ha0 : ¬ (a : Int) < 0 := by omega
        have hb0 : ¬ (b : Int) < 0 := by omega
        clear hz hzn
        go_wp2_with fail
        refine wp_region_held_drew (S := (fun _ => True)) (by kernel_rfl) ?_ (fun hSx => ?_)
        · trivial
        refine wpAnyH_take (i := 0) (oi := ⟨some 15, _, _, _, _, none⟩) (v := ?_) rfl (by kernel_rfl) (by kernel_rfl) (by kernel_rfl) (fun _ _ _ h => h) (Or.inl ⟨by kernel_rfl, ?_⟩) hSx ?_
        rotate_left 1
        focus (intro wx hSw; obtain ⟨⟩ := hSw; go_simp; first | done | with_reducible rfl)
        try simp only [Act.put, List.setIfInBounds_toArray, List.set_cons_zero, List.set_cons_succ]
        refine wpAnyH_take (i := 1) (oi := ⟨some 16, _, _, _, _, none⟩) (v := ?_) rfl (by kernel_rfl) (by kernel_rfl) (by kernel_rfl) (fun _ _ _ h => h) (Or.inl ⟨by kernel_rfl, ?_⟩) hSx ?_
        rotate_left 1
        focus (intro wx hSw; obtain ⟨⟩ := hSw; go_simp; first | done | with_reducible rfl)
        try simp only [Act.put, List.setIfInBounds_toArray, List.set_cons_zero, List.set_cons_succ]
        refine wpAnyH_take (i := 2) (oi := ⟨some 17, _, _, _, _, none⟩) (v := ?_) rfl (by kernel_rfl) (by kernel_rfl) (by kernel_rfl) (fun _ _ _ h => h) (Or.inl ⟨by kernel_rfl, ?_⟩) hSx ?_
        rotate_left 1
        focus (intro wx hSw; obtain ⟨⟩ := hSw; go_simp; first | done | with_reducible rfl)
        try simp only [Act.put, List.setIfInBounds_toArray, List.set_cons_zero, List.set_cons_succ]
        refine wpAnyH_take (i := 4) (oi := ⟨some 19, _, _, _, _, none⟩) (v := ?_) rfl (by kernel_rfl) (by kernel_rfl) (by kernel_rfl) (fun _ _ _ h => h) (Or.inl ⟨by kernel_rfl, ?_⟩) hSx ?_
        rotate_left 1
        focus (intro wx hSw; obtain ⟨⟩ := hSw; go_simp; first | done | with_reducible rfl)
        try simp only [Act.put, List.setIfInBounds_toArray, List.set_cons_zero, List.set_cons_succ]
        refine wpAnyH_take (i := 5) (oi := ⟨some 20, _, _, _, _, none⟩) (v := ?_) rfl (by kernel_rfl) (by kernel_rfl) (by kernel_rfl) (fun _ _ _ h => h) (Or.inl ⟨by kernel_rfl, ?_⟩) hSx ?_
        rotate_left 1
        focus (intro wx hSw; obtain ⟨⟩ := hSw; go_simp; first | done | with_reducible rfl)
        try simp only [Act.put, List.setIfInBounds_toArray, List.set_cons_zero, List.set_cons_succ]
        refine wpAnyH_take (i := 6) (oi := ⟨some 21, _, _, _, _, none⟩) (v := ?_) rfl (by kernel_rfl) (by kernel_rfl) (by kernel_rfl) (fun _ _ _ h => h) (Or.inl ⟨by kernel_rfl, ?_⟩) hSx ?_
        rotate_left 1
        focus (intro wx hSw; obtain ⟨⟩ := hSw; go_simp; first | done | with_reducible rfl)
        try simp only [Act.put, List.setIfInBounds_toArray, List.set_cons_zero, List.set_cons_succ]
        refine wpAnyH_take (i := 7) (oi := ⟨some 22, _, _, _, _, none⟩) (v := ?_) rfl (by kernel_rfl) (by kernel_rfl) (by kernel_rfl) (fun _ _ _ h => h) (Or.inl ⟨by kernel_rfl, ?_⟩) hSx ?_
        rotate_left 1
        focus (intro wx hSw; obtain ⟨⟩ := hSw; go_simp; first | done | with_reducible rfl)
        try simp only [Act.put, List.setIfInBounds_toArray, List.set_cons_zero, List.set_cons_succ]
        refine wpAnyH_ready (rs := [3]) (by kernel_rfl) (by simp) ?_
        refine AllReadyH.cons (o := ⟨some 18, _, _, _, _, none⟩) rfl (fun KK hKK => ?_) AllReadyH.nil
        go_simp
        with_reducible refine Calls.mono (HX.out _) ?_
        rintro e z1 ⟨rfl, rfl⟩
        refine hKK.out _ _ (trivial) (fun hSy => ?_)
        clear hKK hSx
        have hSx := hSy
        clear hSy KK
        try simp only [Act.put, List.setIfInBounds_toArray, List.set_cons_zero, List.set_cons_succ]
        refine wpAnyH_ready (rs := [8]) (by kernel_rfl) (by simp) ?_
        refine AllReadyH.cons (o := ⟨some 23, _, _, _, _, none⟩) rfl (fun KK hKK => ?_) AllReadyH.nil
        go_simp
        with_reducible refine Calls.mono (HY.out _) ?_
        rintro e z2 ⟨rfl, rfl⟩
        refine hKK.out _ _ (trivial) (fun hSy => ?_)
        clear hKK hSx
        have hSx := hSy
        clear hSy KK
        try simp only [Act.put, List.setIfInBounds_toArray, List.set_cons_zero, List.set_cons_succ]
        refine wpAnyH_take (i := 9) (oi := ⟨some 6, _, _, _, _, none⟩) (v := ?_) rfl (by kernel_rfl) (by kernel_rfl) (by kernel_rfl) (fun _ _ _ h => h) (Or.inl ⟨by kernel_rfl, ?_⟩) hSx ?_
        rotate_left 1
        focus (intro wx hSw; obtain ⟨⟩ := hSw; go_simp; first | done | with_reducible rfl)
        try simp only [Act.put, List.setIfInBounds_toArray, List.set_cons_zero, List.set_cons_succ]
        refine wpAnyH_take (i := 10) (oi := ⟨some 7, _, _, _, _, none⟩) (v := ?_) rfl (by kernel_rfl) (by kernel_rfl) (by kernel_rfl) (fun _ _ _ h => h) (Or.inl ⟨by kernel_rfl, ?_⟩) hSx ?_
        rotate_left 1
        focus (intro wx hSw; obtain ⟨⟩ := hSw; go_simp; first | done | with_reducible rfl)
        try simp only [Act.put, List.setIfInBounds_toArray, List.set_cons_zero, List.set_cons_succ]
        refine wpAnyH_done (by kernel_rfl) ?_ _
        clear hSx
        have hal : acc.length ≤ 1000000 := by have := HA.out; omega
        go_wp2_with (at_builtin; (refine wpList_append_own _ rfl (.tmp 30) (.tmp 36) _ rfl w.heap.size 5 i0 _ 1 1 Tryz.underlying74 I0.out Z0.out S0.out Y0.out rfl (by decide) _ acc.length _ rfl (HRD.out.alloc _) _ 1 1 [.int .u8 (z.toNat : Int)] rfl rfl (new1 _ _ _ _ rfl) (by simp [Value.oneCell']) (by unfold maxLen; omega) (by omega) (by have := HB.out.size; simp; omega) ?_))
        intro v3 w3 hown3 hg3 _
        have HB3 : Hid (Below w.heap.size w w3) := Lib.hid ((HBD.out.alloc HBD.out.size _).grown hg3 (by have := HB.out.size; simp; omega) (fun j q => (HRD.out.lt j q).1))
        have HOWN3 : Hid (w3.ownsRow w.heap.size 5 1 v3 (acc ++ [z]).length (bytesV (acc ++ [z]))) := Lib.hid (by
          rw [List.length_append, bytesV_append]
          exact hown3)
        clear hown3 hg3
        have w5 : IntKind.i64.wrap ((p : Int) + 2) = (p : Int) + 2 := IntWalk.i64_in _ (by omega)
        go_wp2_with fail
        go_roundg (l.length - (p + 2))
        case measure => rw [HK.out]; omega
        case rel => exact ⟨p + 2, acc ++ [z], by omega, rfl, by rw [List.length_append]; have := HA.out; simp; omega, by go_num, HB3.out, HOWN3.out, HN.out⟩
    · have hcv := conv_own hr
      have q2 : ¬ (p : Int) + 1 < (l.length : Int) := by omega
      by_cases hpl : p = l.length
      · have hrem : Int.tmod (l.length : Int) 2 = 0 := by rw [Int.tmod_eq_emod_of_nonneg (by omega)]; have := HA.out; omega
        have HFIN : Hid (TextPost l w (.returned (.tuple #[.string (str acc), .bool true])) wr) := Lib.hid ⟨acc, true, rfl, fun _ => by rw [HC.out, hpl, List.drop_length]; simp [unhex], (fun q => by cases q), by have := HA.out; omega, HB.out⟩
        clear hpl hr
        go_wp2_with fail
        go_ret2
        exact HFIN.out
      · have hrem : Int.tmod (l.length : Int) 2 = 1 := by rw [Int.tmod_eq_emod_of_nonneg (by omega)]; have := HA.out; omega
        have hd1 : ∃ x, l.drop p = [x] := List.length_eq_one_iff.1 (by rw [List.length_drop]; omega)
        have HFIN : Hid (TextPost l w (.returned (.tuple #[.string (str acc), .bool false])) wr) := Lib.hid ⟨acc, false, rfl, (fun q => by cases q), fun _ => by
          obtain ⟨x, hx⟩ := hd1
          rw [HC.out, hx]; rfl, by have := HA.out; omega, HB.out⟩
        clear hpl hr hd1
        go_wp2_with fail
        go_ret2
        exact HFIN.out
end Go.Proofs.YtocfhldmnbmapaaGreatDoor
