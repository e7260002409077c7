/- The walk over the model's Same, whatever the two hold. -/
import Derived.Test.YtadagidjppgbkaaM13
namespace Go.Proofs.Ytadagidjppgbkaa
open Go.RowKit Go.Maps Go.Sort
/-- do the two hold other bytes under a name? -/
def dif (s1 s2 : Md) (k : List UInt8) : Bool := !decide (valOf s1 ⟨k.toArray⟩ = valOf s2 ⟨k.toArray⟩)
set_option maxHeartbeats 1000000 in
theorem clos39g {g1 b1 g2 b2 p1 p2 : Nat} {s1 s2 : Md} {w : World} (h1 : MdAt g1 b1 s1 w) (h2 : MdAt g2 b2 s2 w) (c1 : w.cell? ⟨p1, 0, none⟩ = some (.pointer (some ⟨g1, 0, none⟩))) (c2 : w.cell? ⟨p2, 0, none⟩ = some (.pointer (some ⟨g2, 0, none⟩)))
    (k : List UInt8) (hk : k.length ≤ maxLen) : Calls Try.prog 39 #[encStr k, .pointer (some ⟨p1, 0, none⟩), .pointer (some ⟨p2, 0, none⟩)] w fun e w' => e = .returned (.bool (dif s1 s2 k)) ∧ w = w' := by
  have hsz : (⟨k.toArray⟩ : ByteArray).size ≤ maxLen := by simpa [ByteArray.size] using hk
  have HA := Lib.hid (bytes_at h1 ⟨k.toArray⟩ hsz)
  have HBB := Lib.hid (bytes_at h2 ⟨k.toArray⟩ hsz)
  unfold dif encStr
  clear h1 h2 hk hsz
  generalize valOf s1 ⟨k.toArray⟩ = V1 at *
  generalize valOf s2 ⟨k.toArray⟩ = V2 at *
  generalize has s1 ⟨k.toArray⟩ = B1 at *
  generalize has s2 ⟨k.toArray⟩ = B2 at *
  generalize (⟨k.toArray⟩ : ByteArray) = nm at *
  by_cases hv : V1 = V2
  · subst hv
    rw [show (!decide (V1 = V1)) = false by simp]
    go_enter Try.func39, Try.ntmps39
    go_wp2_with fail
    refine HA.out.mono ?_
    rintro e w1 ⟨rfl, rfl⟩
    go_wp2_with fail
    refine HBB.out.mono ?_
    rintro e w1 ⟨rfl, rfl⟩
    go_wp2
    go_ret
    exact ⟨rfl, rfl⟩
  · rw [show (!decide (V1 = V2)) = true by simp [hv]]
    have hne := ne_list hv
    clear hv
    go_enter Try.func39, Try.ntmps39
    go_wp2_with fail
    refine HA.out.mono ?_
    rintro e w1 ⟨rfl, rfl⟩
    go_wp2_with fail
    refine HBB.out.mono ?_
    rintro e w1 ⟨rfl, rfl⟩
    go_wp2
    go_ret
    exact ⟨rfl, rfl⟩
def IdxPost (q : Bool) (w : World) (e : Ending) (w' : World) : Prop := ∃ i : Int, e = .returned (.int .i64 i) ∧ decide (0 ≤ i) = q ∧ w = w'
set_option maxRecDepth 100000 in
set_option maxHeartbeats 1000000 in
theorem index43g {A : Option Addr} {n c p1 p2 : Nat} {ks : List (List UInt8)} {w : World} (f : List UInt8 → Bool) (hrow : Rd w A n (strs ks)) (hcl : ∀ k ∈ ks, Calls Try.prog 39 #[encStr k, .pointer (some ⟨p1, 0, none⟩), .pointer (some ⟨p2, 0, none⟩)] w fun e w' => e = .returned (.bool (f k)) ∧ w = w') (hn : n ≤ 1000000) :
    Calls Try.prog 43 #[.slice A n c, .func (.func 39) #[] #[.pointer (some ⟨p1, 0, none⟩), .pointer (some ⟨p2, 0, none⟩)]] w (IdxPost (ks.any f) w) := by
  have HR := Lib.hid hrow
  have HC := Lib.hid hcl
  have hkl : ks.length = n := by have := hrow.1; simpa [strs] using this
  have HKL := Lib.hid hkl
  clear hrow hcl hkl
  go_enter Try.func43, Try.ntmps43
  go_wp2
  go_loopg [5, 8] n (fun gk _ i wr => ∃ k : Nat, k ≤ n ∧ gk = n - k ∧ i = .int .i64 k ∧ w = wr ∧ (ks.take k).any f = false)
  case atStart => exact ⟨0, Nat.zero_le _, rfl, rfl, rfl, by simp⟩
  case round =>
    obtain ⟨k, hk, hgk, rfl, rfl, hany⟩ := hrel
    have HK := Lib.hid hgk
    have HANY := Lib.hid hany
    clear hgk hany
    by_cases hlt : k < n
    · obtain ⟨x, hx⟩ : ∃ x, ks[k]? = some x := ⟨ks[k]'(by rw [HKL.out]; exact hlt), by simp⟩
      have hfx := HC.out x (List.mem_of_getElem? hx)
      obtain ⟨b, o, rfl, _, hc⟩ := HR.out.2 (by omega)
      have hcx := hc k ⟨x.toArray⟩ (by simp [strs, hx])
      have HX := Lib.hid hx
      clear hc hx
      have hcx2 : w.cell? ⟨b, o + k, none⟩ = some (encStr x) := hcx
      clear hcx
      cases hf : f x
      · have HANY2 : Hid ((ks.take (k + 1)).any f = false) := by
          show _ = _
          rw [List.take_add_one, HX.out, List.any_append, HANY.out]
          simp [hf]
        rw [hf] at hfx
        have HFX := Lib.hid hfx
        clear hfx hf
        go_wp2_with (first
          | (go_at_call 39; refine HFX.out.mono ?_; rintro e w1 ⟨rfl, rfl⟩))
        go_roundg (n - (k + 1))
        case measure => rw [HK.out]; omega
        case rel => exact ⟨k + 1, by omega, rfl, by go_num, rfl, HANY2.out⟩
      · have HT : Hid (ks.any f = true) := List.any_eq_true.2 ⟨x, List.mem_of_getElem? HX.out, hf⟩
        rw [hf] at hfx
        have HFX := Lib.hid hfx
        clear hfx hf
        go_wp2_with (first
          | (go_at_call 39; refine HFX.out.mono ?_; rintro e w1 ⟨rfl, rfl⟩))
        go_ret
        exact ⟨_, rfl, by rw [HT.out]; simp, rfl⟩
    · have HT : Hid (ks.any f = false) := by
        have := HANY.out
        rw [List.take_of_length_le (by rw [HKL.out]; omega)] at this
        exact this
      go_wp2
      go_ret
      exact ⟨_, rfl, by rw [HT.out]; simp, rfl⟩
set_option maxHeartbeats 1000000 in
theorem contains38g {A : Option Addr} {n c p1 p2 : Nat} {ks : List (List UInt8)} {w : World} (f : List UInt8 → Bool) (hrow : Rd w A n (strs ks)) (hcl : ∀ k ∈ ks, Calls Try.prog 39 #[encStr k, .pointer (some ⟨p1, 0, none⟩), .pointer (some ⟨p2, 0, none⟩)] w fun e w' => e = .returned (.bool (f k)) ∧ w = w') (hn : n ≤ 1000000) :
    Calls Try.prog 38 #[.slice A n c, .func (.func 39) #[] #[.pointer (some ⟨p1, 0, none⟩), .pointer (some ⟨p2, 0, none⟩)]] w fun e w' => e = .returned (.bool (ks.any f)) ∧ w = w' := by
  have HI := Lib.hid (index43g (c := c) f hrow hcl hn)
  clear hrow hcl hn
  generalize ks.any f = Q at *
  go_enter Try.func38, Try.ntmps38
  go_wp2_with fail
  refine HI.out.mono ?_
  rintro e w1 ⟨i, rfl, hi, rfl⟩
  go_wp2
  go_ret
  exact ⟨rfl, rfl⟩
theorem strs_inj {a b : List (List UInt8)} : strs a = strs b ↔ a = b := by
  constructor
  · intro h
    have h2 := congrArg (List.map fun s : ByteArray => s.data.toList) h
    simpa [strs, Function.comp_def] using h2
  · rintro rfl; rfl
def sameB (s1 s2 : Md) : Bool := decide (keysOf s1.D = keysOf s2.D) && !(keysOf s1.D).any (dif s1 s2)
set_option maxRecDepth 100000 in
set_option maxHeartbeats 1000000 in
theorem same24 {g1 b1 g2 b2 : Nat} {s1 s2 : Md} {w : World} (h1 : MdAt g1 b1 s1 w) (h2 : MdAt g2 b2 s2 w) (hm1 : Maps.size s1.D ≤ 1000000) (hm2 : Maps.size s2.D ≤ 1000000) :
    Calls Try.prog 24 #[.pointer (some ⟨g1, 0, none⟩), .pointer (some ⟨g2, 0, none⟩)] w fun e w' => e = .returned (.bool (sameB s1 s2)) ∧ Below w.heap.size w w' := by
  have hk1 := keysOf_length h1.2
  have hk2 := keysOf_length h2.2
  have hkle := keys_le h1
  have hN1 : Hid (∀ W, Below w.heap.size w W → Calls Try.prog 20 #[.pointer (some ⟨g1, 0, none⟩)] W fun e w' => ∃ A c, e = .returned (.slice A (keysOf s1.D).length c) ∧ Rd w' A (keysOf s1.D).length (strs (keysOf s1.D)) ∧ Below W.heap.size W w') := fun W hb => (names_at (h1.below hb) hm1).mono fun e w' ⟨v, he, ho, hb2⟩ => by
    obtain ⟨A, c, rfl⟩ := own_slice ho
    exact ⟨A, c, he, Rd.own ho, hb2⟩
  have hN2 : Hid (∀ W, Below w.heap.size w W → Calls Try.prog 20 #[.pointer (some ⟨g2, 0, none⟩)] W fun e w' => ∃ A c, e = .returned (.slice A (keysOf s2.D).length c) ∧ Rd w' A (keysOf s2.D).length (strs (keysOf s2.D)) ∧ Below W.heap.size W w') := fun W hb => (names_at (h2.below hb) hm2).mono fun e w' ⟨v, he, ho, hb2⟩ => by
    obtain ⟨A, c, rfl⟩ := own_slice ho
    exact ⟨A, c, he, Rd.own ho, hb2⟩
  have hcl : Hid (∀ W, Below w.heap.size w W → W.cell? ⟨w.heap.size, 0, none⟩ = some (.pointer (some ⟨g1, 0, none⟩)) → W.cell? ⟨w.heap.size + 1, 0, none⟩ = some (.pointer (some ⟨g2, 0, none⟩)) → ∀ k ∈ keysOf s1.D, Calls Try.prog 39 #[encStr k, .pointer (some ⟨w.heap.size, 0, none⟩), .pointer (some ⟨w.heap.size + 1, 0, none⟩)] W fun e w' => e = .returned (.bool (dif s1 s2 k)) ∧ W = w') := fun W hb e1 e2 k hk =>
    clos39g (h1.below hb) (h2.below hb) e1 e2 k (hkle k hk)
  unfold sameB
  generalize keysOf s1.D = ks1 at *
  generalize keysOf s2.D = ks2 at *
  have hn1 : ks1.length ≤ 1000000 := by omega
  have hn2 : ks2.length ≤ 1000000 := by omega
  clear hk1 hk2 hkle h1 h2 hm1 hm2
  have hb0 : Below w.heap.size w ((w.alloc (.cells #[.pointer (some ⟨g1, 0, none⟩)] 23)).alloc (.cells #[.pointer (some ⟨g2, 0, none⟩)] 23)) := ((Below.refl _ _).alloc (Nat.le_refl _) _).alloc (by simp) _
  have HB0 := Lib.hid hb0
  have hcb : Hid (∀ W, Below (w.heap.size + 1 + 1) ((w.alloc (.cells #[.pointer (some ⟨g1, 0, none⟩)] 23)).alloc (.cells #[.pointer (some ⟨g2, 0, none⟩)] 23)) W → W.cell? ⟨w.heap.size, 0, none⟩ = some (.pointer (some ⟨g1, 0, none⟩)) ∧ W.cell? ⟨w.heap.size + 1, 0, none⟩ = some (.pointer (some ⟨g2, 0, none⟩)) ∧ Below w.heap.size w W) := by
    intro W hb
    refine ⟨?_, ?_, HB0.out.trans (hb.mono (by omega))⟩
    · rw [hb.cell (p := ⟨w.heap.size, 0, none⟩) (by show w.heap.size < _; omega), World.cell?_alloc_lt _ _ _ (by simp), World.cell?_alloc_new]
      rfl
    · rw [hb.cell (p := ⟨w.heap.size + 1, 0, none⟩) (by show w.heap.size + 1 < _; omega)]
      have := World.cell?_alloc_new (w.alloc (.cells #[.pointer (some ⟨g1, 0, none⟩)] 23)) #[.pointer (some ⟨g2, 0, none⟩)] 23 0
      rw [World.size_alloc] at this
      rw [this]
      rfl
  clear hb0
  have hcase : (decide (ks1 = ks2) = true ∧ decide (strs ks1 = strs ks2) = true) ∨ (decide (ks1 = ks2) = false ∧ decide (strs ks1 = strs ks2) = false) := by
    by_cases h : ks1 = ks2
    · exact .inl ⟨by simpa using h, by simpa using strs_inj.2 h⟩
    · exact .inr ⟨by simpa using h, by simpa using fun e => h (strs_inj.1 e)⟩
  rcases hcase with ⟨e1, e2⟩ | ⟨e1, e2⟩
  all_goals
    rw [e1]
    have HE2 := Lib.hid e2
    clear e1 e2
    go_enter Try.func24, Try.ntmps24
    go_wp2_with fail
    refine (hN1.out _ HB0.out).mono ?_
    rintro e w1 ⟨A1, c1, rfl, ho1, hb1⟩
    have hb1' : Below (w.heap.size + 1 + 1) ((w.alloc (.cells #[.pointer (some ⟨g1, 0, none⟩)] 23)).alloc (.cells #[.pointer (some ⟨g2, 0, none⟩)] 23)) w1 := by simpa using hb1
    obtain ⟨q1, q2, q3⟩ := hcb.out w1 hb1'
    have HB1 := Lib.hid hb1'
    have HO1 := Lib.hid ho1
    clear hb1 hb1' ho1
    go_wp2_with fail
    refine (hN2.out _ q3).mono ?_
    rintro e w2 ⟨A2, c2, rfl, ho2, hb2⟩
    have hb2' := HB1.out.trans (hb2.mono (by have := HB1.out.size; simpa using this))
    have HB2 := Lib.hid hb2'
    have hE := eq37 (c := c1) (d := c2) (HO1.out.below hb2) ho2 (by omega) (by omega)
    rw [HE2.out] at hE
    have HE := Lib.hid hE
    have HO12 := Lib.hid (HO1.out.below hb2)
    clear q1 q2 q3 hb2 hb2' ho2 hE
    go_wp2_with fail
    refine HE.out.mono ?_
    rintro e w3 ⟨rfl, hb3⟩
    have hb3' := HB2.out.trans (hb3.mono (by have := HB2.out.size; simpa using this))
    obtain ⟨q1, q2, q3⟩ := hcb.out w3 hb3'
    have HQ := Lib.hid q3
    have HO3 := Lib.hid (HO12.out.below hb3)
    clear q3 hb3 hb3'
  · have hC := contains38g (c := c1) (dif s1 s2) HO3.out (hcl.out w3 HQ.out q1 q2) hn1
    have HC := Lib.hid hC
    clear hC q1 q2
    generalize hQ : ks1.any (dif s1 s2) = Q at *
    have HQQ := Lib.hid hQ
    clear hQ
    go_wp2_with fail
    refine HC.out.mono ?_
    rintro e w4 ⟨rfl, rfl⟩
    go_wp2
    go_ret
    exact ⟨by rw [HQQ.out]; rfl, HQ.out⟩
  · clear q1 q2
    go_wp2
    go_ret
    exact ⟨rfl, HQ.out⟩
end Go.Proofs.Ytadagidjppgbkaa
