/- The order of fingerprints; the reference's Less. -/
import Derived.Test.YtnpgfhoagpeelaaA3
import Derived.Lib.BytesEntry
namespace Go.Proofs.Ytnpgfhoagpeelaa
open Go.RowKit
def cmpF : Fp → Fp → Int
  | [], [] => 0
  | [], _ :: _ => -1
  | _ :: _, [] => 1
  | a :: f, b :: g => if a < b then -1 else if b < a then 1 else cmpF f g
def lessF (f g : Fp) : Bool := decide (cmpF f g < 0)
theorem cmpF_self : ∀ f : Fp, cmpF f f = 0
  | [] => rfl
  | a :: f => by unfold cmpF; rw [if_neg (by omega), if_neg (by omega)]; exact cmpF_self f
theorem cmpF_eq : ∀ {f g : Fp}, cmpF f g = 0 → f = g
  | [], [], _ => rfl
  | [], _ :: _, h => by simp [cmpF] at h
  | _ :: _, [], h => by simp [cmpF] at h
  | a :: f, b :: g, h => by
    unfold cmpF at h
    split at h
    · cases h
    · split at h
      · cases h
      · rw [show a = b by omega, cmpF_eq h]
theorem cmpF_swap : ∀ f g : Fp, cmpF g f = - cmpF f g
  | [], [] => rfl
  | [], _ :: _ => rfl
  | _ :: _, [] => rfl
  | a :: f, b :: g => by
    unfold cmpF
    have := cmpF_swap f g
    split <;> split <;> first | omega | (split <;> omega)
theorem cmpF_three : ∀ f g : Fp, cmpF f g = -1 ∨ cmpF f g = 0 ∨ cmpF f g = 1
  | [], [] => .inr (.inl rfl)
  | [], _ :: _ => .inl rfl
  | _ :: _, [] => .inr (.inr rfl)
  | a :: f, b :: g => by
    unfold cmpF
    split
    · exact .inl rfl
    · split
      · exact .inr (.inr rfl)
      · exact cmpF_three f g
theorem cmpF_trans : ∀ {f g h : Fp}, cmpF f g < 0 → cmpF g h < 0 → cmpF f h < 0
  | [], [], _, h1, _ => by simp [cmpF] at h1
  | [], _ :: _, [], _, h2 => by simp [cmpF] at h2
  | [], _ :: _, _ :: _, _, _ => by simp [cmpF]
  | _ :: _, [], _, h1, _ => by simp [cmpF] at h1
  | _ :: _, _ :: _, [], _, h2 => by simp [cmpF] at h2
  | a :: f, b :: g, c :: h, h1, h2 => by
    unfold cmpF at *
    split at h1
    · split at h2
      · rw [if_pos (by omega)]; decide
      · split at h2
        · omega
        · rw [if_pos (by omega)]; decide
    · split at h1
      · omega
      · split at h2
        · rw [if_pos (by omega)]; decide
        · split at h2
          · omega
          · rw [if_neg (by omega), if_neg (by omega)]
            exact cmpF_trans h1 h2
theorem lessF_irrefl (f : Fp) : lessF f f = false := by unfold lessF; rw [cmpF_self]; rfl
theorem lessF_trans {f g h : Fp} (h1 : lessF f g = true) (h2 : lessF g h = true) : lessF f h = true := decide_eq_true (cmpF_trans (of_decide_eq_true h1) (of_decide_eq_true h2))
theorem lessF_asymm {f g : Fp} (h1 : lessF f g = true) : lessF g f = false := by
  have := of_decide_eq_true h1
  unfold lessF
  rw [cmpF_swap f g]
  exact decide_eq_false (by omega)
theorem lessF_total {f g : Fp} (h1 : lessF f g = false) (h2 : lessF g f = false) : f = g := by
  unfold lessF at *
  rw [decide_eq_false_iff_not] at h1 h2
  rw [cmpF_swap f g] at h2
  exact cmpF_eq (by omega)
theorem cmpF_at : ∀ {f g : Fp} {k : Nat} {a b : Int}, f.take k = g.take k → f[k]? = some a → g[k]? = some b → a ≠ b → cmpF f g = if a < b then -1 else 1
  | [], _, _, _, _, _, h, _, _ => by simp at h
  | _ :: _, [], _, _, _, _, _, h, _ => by simp at h
  | x :: f, y :: g, 0, a, b, _, h1, h2, hn => by
    simp at h1 h2
    subst h1 h2
    unfold cmpF
    split
    · rfl
    · rw [if_pos (by omega)]
  | x :: f, y :: g, k + 1, a, b, ht, h1, h2, hn => by
    rw [List.take_succ_cons, List.take_succ_cons] at ht
    injection ht with e1 e2
    subst e1
    unfold cmpF
    rw [if_neg (by omega), if_neg (by omega)]
    exact cmpF_at e2 (by simpa using h1) (by simpa using h2) hn
theorem cmp_bytes : ∀ {f g : Fp}, (∀ b ∈ f, 0 ≤ b ∧ b ≤ 255) → (∀ b ∈ g, 0 ≤ b ∧ b ≤ 255) → Lib.compareBytes (Lib.bytesOf f) (Lib.bytesOf g) = cmpF f g
  | [], [], _, _ => rfl
  | [], _ :: _, _, _ => rfl
  | _ :: _, [], _, _ => rfl
  | a :: f, b :: g, hf, hg => by
    have h1 := hf a (List.mem_cons_self ..)
    have h2 := hg b (List.mem_cons_self ..)
    have ih := cmp_bytes (f := f) (g := g) (fun x hx => hf x (List.mem_cons_of_mem _ hx)) (fun x hx => hg x (List.mem_cons_of_mem _ hx))
    show Lib.compareBytes (a.toNat.toUInt8 :: Lib.bytesOf f) (b.toNat.toUInt8 :: Lib.bytesOf g) = _
    unfold Lib.compareBytes cmpF
    have e1 : (a.toNat.toUInt8 < b.toNat.toUInt8) ↔ a < b := by
      rw [UInt8.lt_iff_toNat_lt]
      simp
      omega
    have e2 : (b.toNat.toUInt8 < a.toNat.toUInt8) ↔ b < a := by
      rw [UInt8.lt_iff_toNat_lt]
      simp
      omega
    rw [ih]
    simp only [e1, e2]
set_option maxHeartbeats 2000000 in
theorem less38 {f g : Fp} {w : World} (hf : IsFp f) (hg : IsFp g) :
    Calls Try.prog 30 #[.agg (fpL f).toArray, .agg (fpL g).toArray] w fun e w' => e = .returned (.bool (lessF f g)) ∧ Below w.heap.size w w' := by
  have HF := Lib.hid hf
  have HG := Lib.hid hg
  have HY : Hid (∀ k a b, f.take k = g.take k → f[k]? = some a → g[k]? = some b → a ≠ b → lessF f g = decide (a < b)) := Lib.hid (fun k a b h1 h2 h3 h4 => by
    unfold lessF
    rw [cmpF_at h1 h2 h3 h4]
    split
    · next h => rw [decide_eq_true h]; rfl
    · next h => rw [decide_eq_false h]; rfl)
  have HN : Hid (f.take 32 = g.take 32 → lessF f g = false) := Lib.hid (fun h => by
    rw [List.take_of_length_le (by rw [hf.1]; exact Nat.le_refl _), List.take_of_length_le (by rw [hg.1]; exact Nat.le_refl _)] at h
    rw [h, lessF_irrefl])
  have HBX : Hid (Below w.heap.size w ((w.alloc (.cells (fpL f).toArray 47)).alloc (.cells (fpL g).toArray 47))) := Lib.hid (((Below.refl _ _).alloc (Nat.le_refl _) _).alloc (by rw [World.size_alloc]; omega) _)
  have HR1 : Hid (((w.alloc (.cells (fpL f).toArray 47)).alloc (.cells (fpL g).toArray 47)).rangeAt w.heap.size 0 (fpL f)) := Lib.hid (range_below (range_new w f 47 _ rfl) ((Below.refl _ _).alloc (Nat.le_refl _) _) (by rw [World.size_alloc]; omega))
  have HR2 : Hid (((w.alloc (.cells (fpL f).toArray 47)).alloc (.cells (fpL g).toArray 47)).rangeAt (w.heap.size + 1) 0 (fpL g)) := Lib.hid (range_new _ g 47 _ (by rw [World.size_alloc]))
  clear hf hg
  generalize lessF f g = r at *
  go_enter Try.func30, Try.ntmps30
  go_wp2_with fail
  obtain ⟨w1, hw1⟩ : ∃ w1, (w.alloc (.cells (fpL f).toArray 47)).alloc (.cells (fpL g).toArray 47) = w1 := ⟨_, rfl⟩
  rw [hw1] at HBX HR1 HR2 ⊢
  obtain ⟨b, hb⟩ : ∃ b, w.heap.size = b := ⟨_, rfl⟩
  rw [hb] at HR1 HR2 ⊢
  clear hw1 hb
  go_loopg [5] 32 (fun gk i wr => ∃ k : Nat, k ≤ 32 ∧ gk = 32 - k ∧ i = .int .i64 k ∧ (∃ q, wr = w1.drewN q) ∧ f.take k = g.take k)
  case atStart => exact ⟨0, Nat.zero_le _, rfl, rfl, ⟨0, rfl⟩, by simp⟩
  case round =>
    obtain ⟨k, hk, hgk, rfl, ⟨q, hw⟩, hall⟩ := hrel
    have HK := Lib.hid hgk
    have HALL := Lib.hid hall
    have HW := Lib.hid hw
    clear hgk hall hw
    by_cases hlt : k < 32
    · obtain ⟨x, hx⟩ : ∃ y, f[k]? = some y := ⟨_, List.getElem?_eq_getElem (by rw [HF.out.1]; exact hlt)⟩
      obtain ⟨y, hy⟩ : ∃ y, g[k]? = some y := ⟨_, List.getElem?_eq_getElem (by rw [HG.out.1]; exact hlt)⟩
      have c1 : wr.cell? ⟨b, k, none⟩ = some (.int .u8 x) := by
        have := HR1.out k (.int .u8 x) (by unfold fpL; rw [List.getElem?_map, hx]; rfl)
        rw [Nat.zero_add] at this
        rw [HW.out]; exact this
      have c2 : wr.cell? ⟨b + 1, k, none⟩ = some (.int .u8 y) := by
        have := HR2.out k (.int .u8 y) (by unfold fpL; rw [List.getElem?_map, hy]; rfl)
        rw [Nat.zero_add] at this
        rw [HW.out]; exact this
      have hk0 : (0 : Int) ≤ (k : Int) := by omega
      have hk1 : (k : Int) < 32 := by omega
      have HX := Lib.hid hx
      have HYY := Lib.hid hy
      clear hx hy
      by_cases hyx : x = y
      · subst hyx
        have hb : (x != x) = false := by simp
        go_wp2_with fail
        go_quiet (fail)
        go_wp2_with fail
        go_roundg (32 - (k + 1))
        case measure => rw [HK.out]; omega
        case rel => exact ⟨k + 1, by omega, rfl, by go_num, ⟨q + nq, by rw [HW.out, World.drewN_drewN]⟩, same_take HALL.out HX.out HYY.out⟩
      · have hb : (x != y) = true := by simp [hyx]
        have hr := HY.out k x y HALL.out HX.out HYY.out hyx
        subst hr
        go_wp2_with fail
        go_quiet (fail)
        have c3 : (wr.drewN nq).cell? ⟨b, k, none⟩ = some (.int .u8 x) := c1
        have c4 : (wr.drewN nq).cell? ⟨b + 1, k, none⟩ = some (.int .u8 y) := c2
        clear c1 c2
        generalize hwz : wr.drewN nq = wz at *
        have HWZ := Lib.hid hwz
        clear hwz
        go_wp2_with fail
        go_quiet (fail)
        go_wp2_with fail
        go_ret
        exact ⟨rfl, by rw [← HWZ.out, HW.out]; exact below_drewN (below_drewN (below_drewN HBX.out _) _) _⟩
    · obtain rfl : k = 32 := by omega
      have hr := HN.out HALL.out
      subst hr
      go_wp2_with fail
      go_ret
      exact ⟨rfl, by rw [HW.out]; exact below_drewN HBX.out _⟩
end Go.Proofs.Ytnpgfhoagpeelaa
