/- What is told of a hook. -/
import Derived.Test.YtijdkgklajdbnaaAB
namespace Go.Proofs.Ytijdkgklajdbnaa
open Go.RowKit
def lst0 : Lst := ⟨none, 0, []⟩
def listG : List Fp → List Lst → Fp → Lst
  | h :: hs, l :: ls, x => if h = x then l else listG hs ls x
  | _, _, _ => lst0
def listI : List Fp → List (List Id) → Fp → List Id
  | h :: hs, l :: ls, x => if h = x then l else listI hs ls x
  | _, _, _ => []
theorem listG_ids : ∀ (hs : List Fp) (ls : List Lst) (x : Fp), (listG hs ls x).l = listI hs (ids ls) x
  | h :: hs, l :: ls, x => by
    show (listG (h :: hs) (l :: ls) x).l = listI (h :: hs) (l.l :: ids ls) x
    unfold listG listI
    split
    · rfl
    · exact listG_ids hs ls x
  | [], _, _ => rfl
  | _ :: _, [], _ => rfl
theorem listG_in : ∀ {hs : List Fp} {ls : List Lst} {x : Fp}, listG hs ls x = lst0 ∨ listG hs ls x ∈ ls
  | h :: hs, l :: ls, x => by
    unfold listG
    split
    · exact .inr (List.mem_cons_self ..)
    · exact listG_in.imp id (List.mem_cons_of_mem _)
  | [], _, _ => .inl rfl
  | _ :: _, [], _ => .inl rfl
theorem listG_at : ∀ {hs : List Fp} {ls : List Lst} {x : Fp} {k : Nat} {l : Lst}, (∀ y ∈ hs.take k, y ≠ x) → hs[k]? = some x → ls[k]? = some l → listG hs ls x = l
  | h :: hs, l :: ls, x, 0, _, _, h1, h2 => by
    simp at h1 h2
    unfold listG
    rw [if_pos h1, h2]
  | h :: hs, l :: ls, x, k + 1, _, h0, h1, h2 => by
    unfold listG
    rw [if_neg (h0 h (by simp))]
    exact listG_at (fun y hy => h0 y (by rw [List.take_succ_cons]; exact List.mem_cons_of_mem _ hy)) (by simpa using h1) (by simpa using h2)
  | [], _, _, _, _, _, h1, _ => by simp at h1
  | _ :: _, [], _, _, _, _, _, h2 => by simp at h2
theorem listG_no : ∀ {hs : List Fp} {ls : List Lst} {x : Fp} {k : Nat}, (∀ y ∈ hs.take k, y ≠ x) → (hs.length ≤ k ∨ ls.length ≤ k) → listG hs ls x = lst0
  | h :: hs, l :: ls, x, 0, _, h1 => by simp at h1
  | h :: hs, l :: ls, x, k + 1, h0, h1 => by
    unfold listG
    rw [if_neg (h0 h (by simp))]
    exact listG_no (fun y hy => h0 y (by rw [List.take_succ_cons]; exact List.mem_cons_of_mem _ hy)) (by simpa using h1)
  | [], _, _, _, _, _ => rfl
  | _ :: _, [], _, _, _, _ => rfl
set_option maxRecDepth 100000 in
set_option maxHeartbeats 2000000 in
theorem list12 {A B : Option Addr} {c d : Nat} {hs : List Fp} {ls : List Lst} {x : Fp} {w : World} (h : Fps w A hs) (hl : Ls w B ls) (ha : AllFp hs) (hx : IsFp x) (hn : hs.length ≤ 1000000) :
    Calls Try.prog 12 #[.slice A hs.length c, .slice B ls.length d, .agg (fpL x).toArray] w fun e w' => e = .returned (.slice (listG hs ls x).A (listG hs ls x).l.length (listG hs ls x).c) ∧ Below w.heap.size w w' := by
  have H := Lib.hid h
  have HL := Lib.hid hl
  have HA := Lib.hid ha
  have HXF := Lib.hid hx
  have HY : Hid (∀ (k : Nat) (l : Lst), (∀ y ∈ hs.take k, y ≠ x) → hs[k]? = some x → ls[k]? = some l → listG hs ls x = l) := Lib.hid (fun k l => listG_at)
  have HN : Hid (∀ k, (∀ y ∈ hs.take k, y ≠ x) → (hs.length ≤ k ∨ ls.length ≤ k) → listG hs ls x = ⟨none, 0, []⟩) := Lib.hid (fun k => listG_no)
  have HBX : Hid (Below w.heap.size w (w.alloc (.cells (fpL x).toArray 29))) := Lib.hid ((Below.refl _ _).alloc (Nat.le_refl _) _)
  have HRX := Lib.hid (range_new w x 29 _ rfl)
  have HIX := Lib.hid (info29f hx)
  clear h ha hx hl
  generalize listG hs ls x = r at *
  go_enter Try.func12, Try.ntmps12
  go_wp2_with fail
  obtain ⟨w1, hw1⟩ : ∃ w1, w.alloc (.cells (fpL x).toArray 29) = w1 := ⟨_, rfl⟩
  rw [hw1] at HBX HRX ⊢
  obtain ⟨g, hg⟩ : ∃ g, w.heap.size = g := ⟨_, rfl⟩
  rw [hg] at HRX ⊢
  clear hw1 hg
  go_loopg [7] hs.length (fun gk i wr => ∃ k : Nat, k ≤ hs.length ∧ gk = hs.length - k ∧ i = .int .i64 k ∧ (∃ q, wr = w1.drewN q) ∧ ∀ z ∈ hs.take k, z ≠ x)
  case atStart => exact ⟨0, Nat.zero_le _, rfl, rfl, ⟨0, rfl⟩, by simp⟩
  case round =>
    obtain ⟨k, hk, hgk, rfl, ⟨q, hw⟩, hall⟩ := hrel
    have HK := Lib.hid hgk
    have HALL := Lib.hid hall
    have HW := Lib.hid hw
    have HBW : Hid (Below w.heap.size w wr) := Lib.hid (by rw [hw]; exact below_drewN HBX.out q)
    clear hgk hall hw
    have hk0 : (0 : Int) ≤ (k : Int) := by omega
    by_cases hlt : k < hs.length
    · have hk1 : (k : Int) < (hs.length : Int) := by omega
      by_cases hlt2 : k < ls.length
      · have hk2 : (k : Int) < (ls.length : Int) := by omega
        obtain ⟨y, hy⟩ : ∃ y, hs[k]? = some y := ⟨_, List.getElem?_eq_getElem hlt⟩
        obtain ⟨l, hl⟩ : ∃ l, ls[k]? = some l := ⟨_, List.getElem?_eq_getElem hlt2⟩
        obtain ⟨b, o, rfl, hbl, hc⟩ := (H.out.below HBW.out).get HA.out hy
        obtain ⟨b2, o2, rfl, _, hc2, _⟩ := (HL.out.below HBW.out).get hl
        have hyf := HA.out y (List.mem_of_getElem? hy)
        have HR1 : Hid (∀ m, (wr.drewN m).rangeAt b (o + k * 32) (fpL y)) := Lib.hid (fun m j v hv => hc j v hv)
        have HR2 : Hid (∀ m, (wr.drewN m).rangeAt g 0 (fpL x)) := Lib.hid (fun m => by rw [HW.out]; exact fun j v hv => HRX.out j v hv)
        have HIY := Lib.hid (info29f hyf)
        have hq := fp_eq hyf HXF.out
        have HTK := Lib.hid (not_mem_take hy HALL.out)
        have HYE := Lib.hid (fun (e : y = x) => HY.out k l HALL.out (e ▸ hy) hl)
        clear hy hc hyf hbl hl
        by_cases hyx : y = x
        · have hr := HYE.out hyx
          subst hr
          rw [decide_eq_true hyx] at hq
          clear hyx
          go_wp2_with fail
          refine wp_region_quiet_lit (by kernel_rfl) (by kernel_rfl) ?_
          repeat (first
            | ((with_reducible refine wpQuiet_load_mid (op := ⟨some 23, _, _, _, _, _⟩) ?_ 29 (.tmp 22) rfl b (o + k * 32) ?_ _ _ ?_ Try.underlying29 rfl HIY.out ?_); rfl; rfl; (rintro w2 ⟨q2, rfl⟩; exact HR1.out _); go_simp)
            | ((with_reducible refine wpQuiet_load_mid (op := ⟨some 24, _, _, _, _, _⟩) ?_ 29 (.tmp 5) rfl g (0) ?_ _ _ ?_ Try.underlying29 rfl HIX.out ?_); rfl; rfl; (rintro w2 ⟨q2, rfl⟩; exact HR2.out _); go_simp)
            | go_big_quiet_step (fail))
          refine wpQuiet_nil ?_
          intro nq
          have c3 : (wr.drewN nq).cell? ⟨b2, o2 + k, none⟩ = some (.slice r.A r.l.length r.c) := hc2
          obtain ⟨wz, hwz⟩ : ∃ wz, wr.drewN nq = wz := ⟨_, rfl⟩
          have HWZ : Hid (Below w.heap.size w wz) := Lib.hid (hwz ▸ below_drewN HBW.out nq)
          rw [hwz] at c3 ⊢
          clear hwz hc2
          go_wp2_with fail
          go_ret
          exact ⟨rfl, HWZ.out⟩
        · rw [decide_eq_false hyx] at hq
          clear hc2
          go_wp2_with fail
          refine wp_region_quiet_lit (by kernel_rfl) (by kernel_rfl) ?_
          repeat (first
            | ((with_reducible refine wpQuiet_load_mid (op := ⟨some 23, _, _, _, _, _⟩) ?_ 29 (.tmp 22) rfl b (o + k * 32) ?_ _ _ ?_ Try.underlying29 rfl HIY.out ?_); rfl; rfl; (rintro w2 ⟨q2, rfl⟩; exact HR1.out _); go_simp)
            | ((with_reducible refine wpQuiet_load_mid (op := ⟨some 24, _, _, _, _, _⟩) ?_ 29 (.tmp 5) rfl g (0) ?_ _ _ ?_ Try.underlying29 rfl HIX.out ?_); rfl; rfl; (rintro w2 ⟨q2, rfl⟩; exact HR2.out _); go_simp)
            | go_big_quiet_step (fail))
          refine wpQuiet_nil ?_
          intro nq
          go_wp2_with fail
          go_roundg (hs.length - (k + 1))
          case measure => rw [HK.out]; omega
          case rel => exact ⟨k + 1, by omega, rfl, by go_num, ⟨q + nq, by rw [HW.out, World.drewN_drewN]⟩, HTK.out hyx⟩
      · have hk2 : ¬ (k : Int) < (ls.length : Int) := by omega
        have hr := HN.out k HALL.out (.inr (by omega))
        subst hr
        go_wp2_with fail
        go_ret
        exact ⟨rfl, HBW.out⟩
    · obtain rfl : k = hs.length := by omega
      have hr := HN.out hs.length HALL.out (.inl (Nat.le_refl _))
      subst hr
      go_wp2_with fail
      go_ret
      exact ⟨rfl, HBW.out⟩
end Go.Proofs.Ytijdkgklajdbnaa
