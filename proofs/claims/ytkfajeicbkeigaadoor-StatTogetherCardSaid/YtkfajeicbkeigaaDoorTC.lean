/- The walk over Check. -/
import Derived.Test.YtkfajeicbkeigaaDoorTB
namespace Go.Proofs.YtkfajeicbkeigaaDoor
open Go.RowKit Go.Maps
def okC (c : Ck) : Bool := decide (1 ≤ c.2) && decide (c.2 ≤ 4096)
def okU (u : Us) : Bool := u.cs.all okC
def chkB (us : List Us) : Bool := us.all okU
def chk (us : List Us) : Int := if chkB us = true then 0 else 1
theorem chk_no {us : List Us} {k m : Nat} {u : Us} {c : Ck} (hu : us[k]? = some u) (hc : u.cs[m]? = some c) (h : c.2 < 1 ∨ 4096 < c.2) : chk us = 1 := by
  unfold chk
  rw [if_neg]
  intro hb
  have h1 := List.all_eq_true.1 hb u (List.mem_of_getElem? hu)
  have h2 := List.all_eq_true.1 h1 c (List.mem_of_getElem? hc)
  unfold okC at h2
  simp only [Bool.and_eq_true, decide_eq_true_eq] at h2
  omega
theorem all_take {α : Type} {p : α → Bool} {l : List α} {k : Nat} {x : α} (hx : l[k]? = some x) (h : (l.take k).all p = true) (h1 : p x = true) : (l.take (k + 1)).all p = true := by
  rw [List.take_add_one, hx, List.all_append, h]
  simpa using h1
theorem box_below {w W : World} {o : Obj} (hb : Below (w.heap.size + 1) (w.alloc o) W) {j : Nat} {cs : Array Value} {t : TypeId} {v : Value} (ho : o = .cells cs t) (hv : cs[j]? = some v) : W.cell? ⟨w.heap.size, j, none⟩ = some v := by
  subst ho
  have hh := (hb.block w.heap.size (Nat.lt_succ_self _)).trans (heap_alloc_new w _)
  rw [cell_of_row W w.heap.size j cs t (0, 0) hh]
  exact hv
/-- how many chunks -/
def numC (us : List Us) : Nat := (us.map (·.cs.length)).sum
theorem numC_take {us : List Us} {k : Nat} {u : Us} (h : us[k]? = some u) : numC (us.take (k + 1)) = numC (us.take k) + u.cs.length := by
  unfold numC
  rw [List.take_add_one, h]
  simp
theorem numC_le {us : List Us} (h : ∀ u ∈ us, u.cs.length ≤ 12) : numC us ≤ us.length * 12 := by
  induction us with
  | nil => simp [numC]
  | cons x r ih =>
    have := ih (fun u hu => h u (by simp [hu]))
    have h1 := h x (by simp)
    unfold numC at *
    simp only [List.map_cons, List.sum_cons, List.length_cons]
    omega
set_option maxRecDepth 100000 in
set_option maxHeartbeats 4000000 in
theorem check20 {A : Option Addr} {c : Nat} {us : List Us} {w : World} (h : Uss w A us) (hl : Lim us) :
    Calls Tryd.prog 20 #[.slice A us.length c] w fun e w' => e = .returned (.int .i64 (chk (cnt us))) ∧ Below w.heap.size w w' := by
  have HC := Lib.hid (counting43 (c := c) h hl)
  have hl2 := hl.cnt
  generalize cnt us = vs at *
  clear h hl
  go_enter Tryd.func20, Tryd.ntmps20
  go_wp2_with fail
  refine Calls.mono HC.out ?_
  rintro e w1 ⟨B, d, rfl, hus, hb1⟩
  have H := Lib.hid hus
  have HB1 := Lib.hid hb1
  have hn := hl2.1
  have HL := Lib.hid hl2.2
  have HNC : Hid (∀ k, numC (vs.take k) ≤ 120) := Lib.hid (fun k => by
    have := numC_le (us := vs.take k) (fun u hu => (hl2.2 u (List.mem_of_mem_take hu)).1)
    have h2 : (vs.take k).length ≤ 10 := by rw [List.length_take]; omega
    omega)
  clear hus hb1 hl2
  go_wp2_with fail
  go_loopg [3, 11] vs.length (fun gk r i wr => ∃ k : Nat, k ≤ vs.length ∧ gk = vs.length - k ∧ i = .int .i64 k ∧ r = .int .i64 (numC (vs.take k) : Nat) ∧ (vs.take k).all okU = true ∧ Below w1.heap.size w1 wr)
  case atStart => exact ⟨0, Nat.zero_le _, rfl, rfl, rfl, rfl, Below.refl _ _⟩
  case round =>
    obtain ⟨wo, rfl⟩ : ∃ wo, wo = wr := ⟨_, rfl⟩
    obtain ⟨k, hk, hgk, rfl, rfl, hok, hb⟩ := hrel
    have HK := Lib.hid hgk
    have HB := Lib.hid hb
    have HOK := Lib.hid hok
    have hnc := HNC.out k
    clear hgk hb hok
    by_cases hlt : k < vs.length
    · obtain ⟨u, hu⟩ : ∃ u, vs[k]? = some u := ⟨vs[k]'hlt, by simp⟩
      obtain ⟨b, o, rfl, hbl, hr, hcks⟩ := (H.out.below HB.out).get hu
      have HNT := Lib.hid (numC_take hu)
      have HU := Lib.hid hu
      have hcl := (HL.out u (List.mem_of_getElem? hu)).1
      have c0 := hr 0 _ rfl
      have c1 := hr 1 _ rfl
      have HCK := Lib.hid hcks
      rw [Nat.add_zero] at c0
      obtain ⟨nm, uA, uc, cs⟩ := u
      simp only at *
      have HBOX : Hid (∀ W, Below (wo.heap.size + 1) (wo.alloc (.cells #[.string (str nm), .slice uA cs.length uc] 81)) W → W.cell? ⟨wo.heap.size, 0, none⟩ = some (.string (str nm)) ∧ W.cell? ⟨wo.heap.size, 1, none⟩ = some (.slice uA cs.length uc)) := Lib.hid (fun W hb => ⟨box_below hb rfl rfl, box_below hb rfl rfl⟩)
      have HB0 : Hid (Below (wo.heap.size + 1) (wo.alloc (.cells #[.string (str nm), .slice uA cs.length uc] 81)) (wo.alloc (.cells #[.string (str nm), .slice uA cs.length uc] 81))) := Lib.hid (Below.refl _ _)
      obtain ⟨e0, e1⟩ := HBOX.out _ HB0.out
      have hk0 : (0 : Int) ≤ (k : Int) := by omega
      have hk1 : (k : Int) < (vs.length : Int) := by omega
      clear hr hu hcks
      go_wp2_with fail
      clear e0 e1 c0 c1
      go_loopg [18] cs.length (fun gk2 i2 wQ => ∃ m : Nat, m ≤ cs.length ∧ gk2 = cs.length - m ∧ i2 = .int .i64 m ∧ Below (wo.heap.size + 1) (wo.alloc (.cells #[.string (str nm), .slice uA cs.length uc] 81)) wQ ∧ (cs.take m).all okC = true)
      case atStart => exact ⟨0, Nat.zero_le _, rfl, rfl, HB0.out, rfl⟩
      case round =>
        obtain ⟨m, hm, hgm, rfl, hb2, hok2⟩ := hrel
        have HM := Lib.hid hgm
        have HB2 := Lib.hid hb2
        have HOK2 := Lib.hid hok2
        have HBW : Hid (Below wo.heap.size wo wr) := Lib.hid (((Below.refl _ wo).alloc (Nat.le_refl _) _).trans (hb2.mono (Nat.le_succ _)))
        have HSZ : Hid (wo.heap.size + 1 ≤ wr.heap.size) := Lib.hid (by have := hb2.size; simpa using this)
        clear hgm hb2 hok2
        by_cases hlt2 : m < cs.length
        · obtain ⟨x, hx⟩ : ∃ x, cs[m]? = some x := ⟨cs[m]'hlt2, by simp⟩
          obtain ⟨b2, o2, rfl, hbl2, hr2⟩ := (HCK.out.below HBW.out).get hx
          have f0 := hr2 0 _ rfl
          have f1 := hr2 1 _ rfl
          have f2 := hr2 2 _ rfl
          rw [Nat.add_zero] at f0
          have HNO : Hid (x.2 < 1 ∨ 4096 < x.2 → chk vs = 1) := Lib.hid (fun h => chk_no HU.out hx h)
          have HYS : Hid (1 ≤ x.2 ∧ x.2 ≤ 4096 → (cs.take (m + 1)).all okC = true) := Lib.hid (fun h => all_take hx HOK2.out (by unfold okC; simp [h]))
          obtain ⟨⟨xb, xs⟩, xl⟩ := x
          simp only at *
          have hm0 : (0 : Int) ≤ (m : Int) := by omega
          have hm1 : (m : Int) < (cs.length : Int) := by omega
          clear hr2 hx
          by_cases q1 : xl < 1
          · go_wp2_with fail
            go_ret
            exact ⟨by rw [HNO.out (.inl q1)]; rfl, (HB1.out.trans (((HB.out.mono HB1.out.size).trans (HBW.out.mono (Nat.le_trans HB1.out.size HB.out.size))))).alloc (by have := HB1.out.size; have := HB.out.size; have := HBW.out.size; omega) _⟩
          · by_cases q2 : 4096 < xl
            · go_wp2_with fail
              go_ret
              exact ⟨by rw [HNO.out (.inr q2)]; rfl, (HB1.out.trans (((HB.out.mono HB1.out.size).trans (HBW.out.mono (Nat.le_trans HB1.out.size HB.out.size))))).alloc (by have := HB1.out.size; have := HB.out.size; have := HBW.out.size; omega) _⟩
            · go_wp2_with fail
              go_roundg (cs.length - (m + 1))
              case measure => rw [HM.out]; omega
              case rel => exact ⟨m + 1, by omega, rfl, by go_num, HB2.out.alloc HSZ.out _, HYS.out ⟨by omega, by omega⟩⟩
        · obtain rfl : m = cs.length := by omega
          obtain ⟨e0, e1⟩ := HBOX.out _ HB2.out
          have HOKU : Hid ((vs.take (k + 1)).all okU = true) := Lib.hid (all_take HU.out HOK.out (by unfold okU; have := HOK2.out; rwa [List.take_length] at this))
          go_wp2_with fail
          go_roundg (vs.length - (k + 1))
          case measure => rw [HK.out]; omega
          case rel => exact ⟨k + 1, by omega, rfl, by go_num, by rw [HNT.out]; go_num, HOKU.out, HB.out.trans (HBW.out.mono HB.out.size)⟩
    · obtain rfl : k = vs.length := by omega
      have HF : Hid (chk vs = 0) := Lib.hid (by unfold chk; rw [if_pos]; have := HOK.out; rwa [List.take_length] at this)
      rw [List.take_length]
      rw [List.take_length] at hnc
      generalize numC vs = N at *
      have hnc2 : decide ((65536 : Int) < (N : Int)) = false := by simp; omega
      have hnc3 : decide (65536 < N) = false := by simp; omega
      go_wp2_with fail
      go_ret
      exact ⟨by rw [HF.out]; rfl, HB1.out.trans (HB.out.mono HB1.out.size)⟩
end Go.Proofs.YtkfajeicbkeigaaDoor
