/- The reference's Has, Same and Less over fingerprints. -/
import Derived.Test.YtnpgfhoagpeelaaA2
namespace Go.Proofs.Ytnpgfhoagpeelaa
open Go.RowKit
theorem fp_eq {f g : Fp} (hf : IsFp f) (hg : IsFp g) : ∀ W, (Op.equalIn 10000 47 (.agg (fpL f).toArray) (.agg (fpL g).toArray)).run Try.prog W = .ok (decide (f = g)) W := fun W => by
  have := fp_equal hf hg W
  simpa [fpA] using this
theorem info29f {f : Fp} (hf : IsFp f) : (Try.prog.info? 47).map (·.size) = some (fpL f).length := by rw [info29, fpL_length hf]
theorem range_new (W : World) (f : Fp) (t : TypeId) (g : Nat) (hg : g = W.heap.size) : (W.alloc (.cells (fpL f).toArray t)).rangeAt g 0 (fpL f) := fun j v hv => by
  rw [Nat.zero_add, cell_of_row _ g j _ t (0, 0) (by rw [hg]; exact heap_alloc_new _ _)]
  simpa using hv
theorem range_below {w W : World} {B b o : Nat} {L : List Value} (h : w.rangeAt b o L) (hb : Below B w W) (hl : b < B) : W.rangeAt b o L := fun j v hv => (hb.cell (p := ⟨b, o + j, none⟩) hl).trans (h j v hv)
set_option maxHeartbeats 2000000 in
theorem has37 {A : Option Addr} {c : Nat} {l : List Fp} {x : Fp} {w : World} (h : Fps w A l) (ha : AllFp l) (hx : IsFp x) (hn : l.length ≤ 1000000) :
    Calls Try.prog 29 #[.slice A l.length c, .agg (fpL x).toArray] w fun e w' => e = .returned (.bool (decide (x ∈ l))) ∧ Below w.heap.size w w' := by
  have H := Lib.hid h
  have HA := Lib.hid ha
  have HXF := Lib.hid hx
  have HY : Hid (x ∈ l → decide (x ∈ l) = true) := Lib.hid (fun h => decide_eq_true h)
  have HN : Hid ((∀ z ∈ l.take l.length, z ≠ x) → decide (x ∈ l) = false) := Lib.hid (fun h => decide_eq_false (fun hm => h x (by rw [List.take_length]; exact hm) rfl))
  have HBX : Hid (Below w.heap.size w (w.alloc (.cells (fpL x).toArray 47))) := Lib.hid ((Below.refl _ _).alloc (Nat.le_refl _) _)
  have HRX := Lib.hid (range_new w x 47 _ rfl)
  have HIX := Lib.hid (info29f hx)
  have HSZ : Hid (w.heap.size < (w.alloc (.cells (fpL x).toArray 47)).heap.size) := Lib.hid (by rw [World.size_alloc]; omega)
  clear h ha hx
  generalize decide (x ∈ l) = r at *
  go_enter Try.func29, Try.ntmps29
  go_wp2_with fail
  obtain ⟨w1, hw1⟩ : ∃ w1, w.alloc (.cells (fpL x).toArray 47) = w1 := ⟨_, rfl⟩
  rw [hw1] at HBX HRX HSZ ⊢
  obtain ⟨g, hg⟩ : ∃ g, w.heap.size = g := ⟨_, rfl⟩
  rw [hg] at HRX HSZ ⊢
  clear hw1 hg
  go_loopg [5] l.length (fun gk i wr => ∃ k : Nat, k ≤ l.length ∧ gk = l.length - k ∧ i = .int .i64 k ∧ (∃ q, wr = w1.drewN q) ∧ ∀ z ∈ l.take k, z ≠ x)
  case atStart => exact ⟨0, Nat.zero_le _, rfl, rfl, ⟨0, rfl⟩, by simp⟩
  case round =>
    obtain ⟨k, hk, hgk, rfl, ⟨q, hw⟩, hall⟩ := hrel
    have HK := Lib.hid hgk
    have HALL := Lib.hid hall
    have HW := Lib.hid hw
    clear hgk hall hw
    by_cases hlt : k < l.length
    · obtain ⟨y, hy⟩ : ∃ y, l[k]? = some y := ⟨_, List.getElem?_eq_getElem hlt⟩
      obtain ⟨b, o, rfl, hbl, hc⟩ := (H.out.below HBX.out).get HA.out hy
      have hyf := HA.out y (List.mem_of_getElem? hy)
      have HR1 : Hid (∀ m, (wr.drewN m).rangeAt b (o + k * 32) (fpL y)) := Lib.hid (fun m => by rw [HW.out]; exact fun j v hv => hc j v hv)
      have HR2 : Hid (∀ m, (wr.drewN m).rangeAt g 0 (fpL x)) := Lib.hid (fun m => by rw [HW.out]; exact fun j v hv => HRX.out j v hv)
      have HIY := Lib.hid (info29f hyf)
      have hq := fp_eq hyf HXF.out
      have HTK := Lib.hid (not_mem_take hy HALL.out)
      have HM := Lib.hid (List.mem_of_getElem? hy)
      have hk0 : (0 : Int) ≤ (k : Int) := by omega
      have hk1 : (k : Int) < (l.length : Int) := by omega
      clear hy hc hyf hbl
      by_cases hyx : y = x
      · subst hyx
        have hr := HY.out HM.out
        subst hr
        rw [show decide (y = y) = true by simp] at hq
        go_wp2_with fail
        refine wp_region_quiet_lit (by kernel_rfl) (by kernel_rfl) ?_
        repeat (first
          | ((with_reducible refine wpQuiet_load_mid (op := ⟨some 15, _, _, _, _, _⟩) ?_ 47 (.tmp 14) rfl b (o + k * 32) ?_ _ _ ?_ Try.underlying47 rfl HIY.out ?_); rfl; rfl; (rintro w2 ⟨q2, rfl⟩; exact HR1.out _); go_simp)
          | ((with_reducible refine wpQuiet_load_mid (op := ⟨some 16, _, _, _, _, _⟩) ?_ 47 (.tmp 3) rfl g (0) ?_ _ _ ?_ Try.underlying47 rfl HIX.out ?_); rfl; rfl; (rintro w2 ⟨q2, rfl⟩; exact HR2.out _); go_simp)
          | go_big_quiet_step (fail))
        refine wpQuiet_nil ?_
        intro nq
        go_wp2_with fail
        go_ret
        exact ⟨rfl, by rw [HW.out]; exact below_drewN (below_drewN HBX.out _) _⟩
      · rw [show decide (y = x) = false by simp [hyx]] at hq
        go_wp2_with fail
        refine wp_region_quiet_lit (by kernel_rfl) (by kernel_rfl) ?_
        repeat (first
          | ((with_reducible refine wpQuiet_load_mid (op := ⟨some 15, _, _, _, _, _⟩) ?_ 47 (.tmp 14) rfl b (o + k * 32) ?_ _ _ ?_ Try.underlying47 rfl HIY.out ?_); rfl; rfl; (rintro w2 ⟨q2, rfl⟩; exact HR1.out _); go_simp)
          | ((with_reducible refine wpQuiet_load_mid (op := ⟨some 16, _, _, _, _, _⟩) ?_ 47 (.tmp 3) rfl g (0) ?_ _ _ ?_ Try.underlying47 rfl HIX.out ?_); rfl; rfl; (rintro w2 ⟨q2, rfl⟩; exact HR2.out _); go_simp)
          | go_big_quiet_step (fail))
        refine wpQuiet_nil ?_
        intro nq
        go_wp2_with fail
        go_roundg (l.length - (k + 1))
        case measure => rw [HK.out]; omega
        case rel => exact ⟨k + 1, by omega, rfl, by go_num, ⟨q + nq, by rw [HW.out, World.drewN_drewN]⟩, HTK.out hyx⟩
    · obtain rfl : k = l.length := by omega
      have hr := HN.out HALL.out
      subst hr
      go_wp2_with fail
      go_ret
      exact ⟨rfl, by rw [HW.out]; exact below_drewN HBX.out _⟩
set_option maxHeartbeats 2000000 in
theorem same23 {A B : Option Addr} {c d : Nat} {l m : List Fp} {w : World} (h1 : Fps w A l) (h2 : Fps w B m) (ha1 : AllFp l) (ha2 : AllFp m) (hn : l.length ≤ 1000000) :
    Calls Try.prog 26 #[.slice A l.length c, .slice B m.length d] w fun e w' => e = .returned (.bool (decide (l = m))) ∧ ∃ q, w' = w.drewN q := by
  have H1 := Lib.hid h1
  have H2 := Lib.hid h2
  have HA1 := Lib.hid ha1
  have HA2 := Lib.hid ha2
  have HY : Hid (l = m → decide (l = m) = true) := Lib.hid (fun h => decide_eq_true h)
  have HN : Hid (l ≠ m → decide (l = m) = false) := Lib.hid (fun h => decide_eq_false h)
  clear h1 h2 ha1 ha2
  generalize decide (l = m) = r at *
  by_cases hlen : l.length = m.length
  · have hlb : ((l.length : Int) != (m.length : Int)) = false := by simp [hlen]
    have HL := Lib.hid hlen
    clear hlen
    go_enter Try.func26, Try.ntmps26
    go_wp2_with fail
    go_loopg [5] l.length (fun gk i wr => ∃ k : Nat, k ≤ l.length ∧ gk = l.length - k ∧ i = .int .i64 k ∧ (∃ q, wr = w.drewN q) ∧ l.take k = m.take k)
    case atStart => exact ⟨0, Nat.zero_le _, rfl, rfl, ⟨0, rfl⟩, by simp⟩
    case round =>
      obtain ⟨k, hk, hgk, rfl, ⟨q, hw⟩, hall⟩ := hrel
      have HK := Lib.hid hgk
      have HALL := Lib.hid hall
      have HW := Lib.hid hw
      clear hgk hall hw
      by_cases hlt : k < l.length
      · obtain ⟨x, hx⟩ : ∃ y, l[k]? = some y := ⟨_, List.getElem?_eq_getElem hlt⟩
        obtain ⟨y, hy⟩ : ∃ y, m[k]? = some y := ⟨_, List.getElem?_eq_getElem (by rw [← HL.out]; exact hlt)⟩
        obtain ⟨b, o, rfl, _, hc⟩ := H1.out.get HA1.out hx
        obtain ⟨b2, o2, rfl, _, hc2⟩ := H2.out.get HA2.out hy
        have hxf := HA1.out x (List.mem_of_getElem? hx)
        have hyf := HA2.out y (List.mem_of_getElem? hy)
        have HR1 : Hid (∀ m, (wr.drewN m).rangeAt b (o + k * 32) (fpL x)) := Lib.hid (fun m => by rw [HW.out]; exact fun j v hv => hc j v hv)
        have HR2 : Hid (∀ m, (wr.drewN m).rangeAt b2 (o2 + k * 32) (fpL y)) := Lib.hid (fun m => by rw [HW.out]; exact fun j v hv => hc2 j v hv)
        have HIX := Lib.hid (info29f hxf)
        have HIY := Lib.hid (info29f hyf)
        have hq := fp_eq hxf hyf
        have hk0 : (0 : Int) ≤ (k : Int) := by omega
        have hk1 : (k : Int) < (l.length : Int) := by omega
        have hk2 : (k : Int) < (m.length : Int) := by have := HL.out; omega
        have HX := Lib.hid hx
        have HYY := Lib.hid hy
        clear hx hy hc hc2 hxf hyf
        by_cases hyx : x = y
        · subst hyx
          rw [show decide (x = x) = true by simp] at hq
          go_wp2_with fail
          refine wp_region_quiet_lit (by kernel_rfl) (by kernel_rfl) ?_
          repeat (first
            | ((with_reducible refine wpQuiet_load_mid (op := ⟨some 20, _, _, _, _, _⟩) ?_ 47 (.tmp 19) rfl b (o + k * 32) ?_ _ _ ?_ Try.underlying47 rfl HIX.out ?_); rfl; rfl; (rintro w2 ⟨q2, rfl⟩; exact HR1.out _); go_simp)
            | ((with_reducible refine wpQuiet_load_mid (op := ⟨some 24, _, _, _, _, _⟩) ?_ 47 (.tmp 23) rfl b2 (o2 + k * 32) ?_ _ _ ?_ Try.underlying47 rfl HIY.out ?_); rfl; rfl; (rintro w2 ⟨q2, rfl⟩; exact HR2.out _); go_simp)
            | go_big_quiet_step (fail))
          refine wpQuiet_nil ?_
          intro nq
          go_wp2_with fail
          go_roundg (l.length - (k + 1))
          case measure => rw [HK.out]; omega
          case rel => exact ⟨k + 1, by omega, rfl, by go_num, ⟨q + nq, by rw [HW.out, World.drewN_drewN]⟩, same_take HALL.out HX.out HYY.out⟩
        · rw [show decide (x = y) = false by simp [hyx]] at hq
          have hr := HN.out (fun e => hyx (by have := HX.out; rw [e, HYY.out] at this; exact (Option.some.inj this).symm))
          subst hr
          go_wp2_with fail
          refine wp_region_quiet_lit (by kernel_rfl) (by kernel_rfl) ?_
          repeat (first
            | ((with_reducible refine wpQuiet_load_mid (op := ⟨some 20, _, _, _, _, _⟩) ?_ 47 (.tmp 19) rfl b (o + k * 32) ?_ _ _ ?_ Try.underlying47 rfl HIX.out ?_); rfl; rfl; (rintro w2 ⟨q2, rfl⟩; exact HR1.out _); go_simp)
            | ((with_reducible refine wpQuiet_load_mid (op := ⟨some 24, _, _, _, _, _⟩) ?_ 47 (.tmp 23) rfl b2 (o2 + k * 32) ?_ _ _ ?_ Try.underlying47 rfl HIY.out ?_); rfl; rfl; (rintro w2 ⟨q2, rfl⟩; exact HR2.out _); go_simp)
            | go_big_quiet_step (fail))
          refine wpQuiet_nil ?_
          intro nq
          go_wp2_with fail
          go_ret
          exact ⟨rfl, q + nq, by rw [HW.out, World.drewN_drewN]⟩
      · obtain rfl : k = l.length := by omega
        have hr := HY.out (by
          have := HALL.out
          rw [List.take_length, HL.out, List.take_length] at this
          exact this)
        subst hr
        go_wp2_with fail
        go_ret
        exact ⟨rfl, q, HW.out⟩
  · have hlb : ((l.length : Int) != (m.length : Int)) = true := by simp; omega
    have hr := HN.out (fun e => hlen (by rw [e]))
    subst hr
    go_enter Try.func26, Try.ntmps26
    go_wp2_with fail
    go_ret
    exact ⟨rfl, 0, rfl⟩
end Go.Proofs.Ytnpgfhoagpeelaa
