/- Heads as memory holds them; the walks over Check and May. -/
import Derived.Test.YtgdljjoaiogpfaaC3
import Derived.BigQuiet
namespace Go.Proofs.Ytgdljjoaiogpfaa
open Go.RowKit Go.Maps
abbrev Slt := Int × Int
structure Hd where
  id : Int
  A : Option Addr
  n : Nat
  c : Nat
  sl : List Slt
def hdV (h : Hd) : Value × Value := (.int .u32 h.id, .slice h.A h.n h.c)
def sltV (s : Slt) : Value × Value := (.int .i64 s.1, .int .u32 s.2)
def Slts (w : World) (A : Option Addr) (n : Nat) (l : List Slt) : Prop := Rows2 w A n (l.map sltV)
def Hds (w : World) (A : Option Addr) (n : Nat) (hs : List Hd) : Prop := Rows2 w A n (hs.map hdV) ∧ ∀ h ∈ hs, Slts w h.A h.n h.sl
def Lim (hs : List Hd) : Prop := hs.length ≤ 1000 ∧ ∀ h ∈ hs, h.n ≤ 1000
theorem Slts.below {w w' : World} {n : Nat} {A : Option Addr} {l : List Slt} (h : Slts w A n l) (hb : Below w.heap.size w w') : Slts w' A n l := Rows2.below h hb
theorem Slts.len {w : World} {n : Nat} {A : Option Addr} {l : List Slt} (h : Slts w A n l) : l.length = n := by have := h.1; simpa using this
theorem Slts.get {w : World} {n : Nat} {A : Option Addr} {l : List Slt} (h : Slts w A n l) {k : Nat} {p : Slt} (hp : l[k]? = some p) :
    ∃ b o, A = some ⟨b, o, none⟩ ∧ w.cell? ⟨b, o + k * 2, none⟩ = some (.int .i64 p.1) ∧ w.cell? ⟨b, o + k * 2 + 1, none⟩ = some (.int .u32 p.2) := by
  have hk := (List.getElem?_eq_some_iff.1 hp).1
  obtain ⟨b, o, e, _, hc⟩ := h.2 (by have := h.len; omega)
  obtain ⟨c1, c2⟩ := hc k (sltV p) (by simp [hp])
  exact ⟨b, o, e, c1, c2⟩
theorem Hds.below {w w' : World} {n : Nat} {A : Option Addr} {l : List Hd} (h : Hds w A n l) (hb : Below w.heap.size w w') : Hds w' A n l := ⟨h.1.below hb, fun x hx => (h.2 x hx).below hb⟩
theorem Hds.len {w : World} {n : Nat} {A : Option Addr} {l : List Hd} (h : Hds w A n l) : l.length = n := by have := h.1.1; simpa using this
theorem Hds.get {w : World} {n : Nat} {A : Option Addr} {l : List Hd} (h : Hds w A n l) {k : Nat} {p : Hd} (hp : l[k]? = some p) :
    ∃ b o, A = some ⟨b, o, none⟩ ∧ w.cell? ⟨b, o + k * 2, none⟩ = some (.int .u32 p.id) ∧ w.cell? ⟨b, o + k * 2 + 1, none⟩ = some (.slice p.A p.n p.c) := by
  have hk := (List.getElem?_eq_some_iff.1 hp).1
  obtain ⟨b, o, e, _, hc⟩ := h.1.2 (by have := h.len; omega)
  obtain ⟨c1, c2⟩ := hc k (hdV p) (by simp [hp])
  exact ⟨b, o, e, c1, c2⟩
def SOk (s : Slt) : Prop := 1 ≤ s.1 ∧ s.1 ≤ 4096
def IdOk (hs : List Hd) (j : Nat) : Prop := ∀ h g, hs[j]? = some h → 0 < j → hs[j - 1]? = some g → g.id < h.id
def HOk (hs : List Hd) (j : Nat) : Prop := IdOk hs j ∧ ∀ h, hs[j]? = some h → ∀ s ∈ h.sl, SOk s
def May (hs : List Hd) : Prop := ∀ j, HOk hs j
open Classical in
noncomputable def chk (hs : List Hd) : Int := if May hs then 0 else 1
theorem cell_al {w : World} {p : Addr} {v : Value} (o : Obj) (h : w.cell? p = some v) : (w.alloc o).cell? p = some v := (World.grownBy_alloc w o none).cell h (by simp)
theorem chk_ok {hs : List Hd} (h : May hs) : chk hs = 0 := by unfold chk; rw [if_pos h]
theorem chk_no {hs : List Hd} (h : ¬ May hs) : chk hs = 1 := by unfold chk; rw [if_neg h]
theorem idOk_cases {hs : List Hd} {k : Nat} {x : Hd} (hx : hs[k]? = some x) :
    (IdOk hs k ∧ k = 0) ∨ (∃ g, hs[k - 1]? = some g ∧ 0 < k ∧ ((IdOk hs k ∧ g.id < x.id) ∨ (¬ IdOk hs k ∧ x.id ≤ g.id))) := by
  have hlt := (List.getElem?_eq_some_iff.1 hx).1
  rcases Nat.eq_zero_or_pos k with rfl | hk
  · exact .inl ⟨fun _ _ _ h0 => absurd h0 (Nat.lt_irrefl 0), rfl⟩
  · obtain ⟨g, hg⟩ : ∃ g, hs[k - 1]? = some g := ⟨hs[k - 1]'(by omega), by simp⟩
    refine .inr ⟨g, hg, hk, ?_⟩
    by_cases h : g.id < x.id
    · refine .inl ⟨fun a b ha _ hb => ?_, h⟩
      rw [hx] at ha; rw [hg] at hb; cases ha; cases hb; exact h
    · exact .inr ⟨fun hI => h (hI x g hx hk hg), by omega⟩
theorem not_may_id {hs : List Hd} {k : Nat} (h : ¬ IdOk hs k) : ¬ May hs := fun hm => h (hm k).1
theorem not_may_s {hs : List Hd} {k m : Nat} {x : Hd} {s : Slt} (hx : hs[k]? = some x) (hs' : x.sl[m]? = some s) (h : ¬ SOk s) : ¬ May hs := fun hm => h ((hm k).2 x hx s (List.mem_of_getElem? hs'))
theorem take_ok {l : List Slt} {m : Nat} {s : Slt} (hs : l[m]? = some s) (h : ∀ x ∈ l.take m, SOk x) (hk : SOk s) : ∀ x ∈ l.take (m + 1), SOk x := by
  intro x hx
  rw [List.take_add_one, hs] at hx
  simp only [Option.toList_some, List.mem_append, List.mem_singleton] at hx
  rcases hx with hx | rfl
  · exact h x hx
  · exact hk
theorem head_done {hs : List Hd} {k : Nat} {x : Hd} {m : Nat} (hx : hs[k]? = some x) (hi : IdOk hs k) (hm : x.sl.length ≤ m) (h : ∀ s ∈ x.sl.take m, SOk s) : HOk hs k := by
  refine ⟨hi, fun a ha s hs' => ?_⟩
  rw [hx] at ha; cases ha
  rw [List.take_of_length_le hm] at h
  exact h s hs'
theorem may_done {hs : List Hd} {n : Nat} (hn : hs.length ≤ n) (h : ∀ j, j < n → HOk hs j) : May hs := by
  intro j
  by_cases hj : j < n
  · exact h j hj
  · have : hs[j]? = none := List.getElem?_eq_none (by omega)
    exact ⟨fun a b ha => (by rw [this] at ha; cases ha), fun a ha => (by rw [this] at ha; cases ha)⟩
set_option maxRecDepth 100000 in
set_option maxHeartbeats 4000000 in
theorem check24 {w : World} {A : Option Addr} {n c : Nat} {hs : List Hd} (h : Hds w A n hs) (hl : Lim hs) :
    Calls Try.prog 24 #[.slice A n c] w fun e w' => e = .returned (.int .i64 (chk hs)) ∧ Below w.heap.size w w' := by
  have H := Lib.hid h
  have HN : Hid (n ≤ 1000) := by have := hl.1; rw [h.len] at this; exact this
  have HL := Lib.hid hl.2
  clear h hl
  go_enter Try.func24, Try.ntmps24
  go_wp2_with fail
  go_loopg [2, 9] n (fun gk r i wr => r = .int .i64 0 ∧ ∃ k : Nat, k ≤ n ∧ gk = n - k ∧ i = .int .i64 k ∧ Below w.heap.size w wr ∧ ∀ j, j < k → HOk hs j)
  case atStart => exact ⟨rfl, 0, Nat.zero_le _, rfl, rfl, Below.refl _ _, fun j hj => by omega⟩
  case round =>
    obtain ⟨wo, rfl⟩ : ∃ wo, wo = wr := ⟨_, rfl⟩
    obtain ⟨rfl, k, hk, hgk, rfl, hb, hok⟩ := hrel
    have HK := Lib.hid hgk
    have HB := Lib.hid hb
    have HOK := Lib.hid hok
    have HN' := HN.out
    clear hgk hb hok
    by_cases hlt : k < n
    · obtain ⟨x, hx⟩ : ∃ x, hs[k]? = some x := ⟨hs[k]'(by rw [H.out.len]; exact hlt), by simp⟩
      obtain ⟨b, o, rfl, c1, c2⟩ := (H.out.below HB.out).get hx
      have HX := Lib.hid hx
      have hk0 : (0 : Int) ≤ (k : Int) := by omega
      have hk1 : (k : Int) < (n : Int) := by omega
      have hxl : x.n ≤ 1000 := HL.out x (List.mem_of_getElem? hx)
      have HS := Lib.hid ((H.out.below HB.out).2 x (List.mem_of_getElem? hx))
      have hcase := idOk_cases hx
      obtain ⟨xi, xA, xn, xc, xl⟩ := x
      simp only at *
      have c1a := cell_al (.cells #[.int .u32 xi, .slice xA xn xc] 45) c1
      have c2a := cell_al (.cells #[.int .u32 xi, .slice xA xn xc] 45) c2
      have hbx := heap_alloc_new wo (.cells #[.int .u32 xi, .slice xA xn xc] 45)
      have e0 := cell_of_row (wo.alloc (.cells #[.int .u32 xi, .slice xA xn xc] 45)) wo.heap.size 0 _ 45 (0, 0) hbx
      have e1 := cell_of_row (wo.alloc (.cells #[.int .u32 xi, .slice xA xn xc] 45)) wo.heap.size 1 _ 45 (0, 0) hbx
      clear hbx hx
      by_cases hidk : IdOk hs k
      · have HID := Lib.hid hidk
        have hcase2 : k = 0 ∨ ∃ g, hs[k - 1]? = some g ∧ 0 < k ∧ g.id < xi := by
          rcases hcase with ⟨_, h0⟩ | ⟨g, h1, h2, ⟨_, h3⟩ | ⟨h3, _⟩⟩
          · exact .inl h0
          · exact .inr ⟨g, h1, h2, h3⟩
          · exact absurd hidk h3
        clear hcase hidk
        refine hcase2.elim (fun hkz => ?kz) (fun hkp => ?kp)
        case' kz =>
          have hk2 : ¬ (0 : Int) < (k : Int) := by omega
          have HK2 : Hid (¬ 0 < k) := by show ¬ 0 < k; omega
          clear hkz hcase2
          go_wp2_with fail
          have hk22 := HK2.out
          go_quiet (fail)
          clear hk22 hk2
          go_wp2
        case' kp =>
          obtain ⟨g, hg, hkp, hlt2⟩ := hkp
          obtain ⟨b', o', hb', d1, d2⟩ := (H.out.below HB.out).get hg
          obtain ⟨rfl, rfl⟩ : b = b' ∧ o = o' := by simpa using hb'
          have d1a := cell_al (.cells #[.int .u32 xi, .slice xA xn xc] 45) d1
          have hk2 : (0 : Int) < (k : Int) := by omega
          have hk3 : ((k : Int) - 1).toNat = k - 1 := by omega
          clear hb' hg hcase2
          go_wp2_with fail
          go_quiet (fail)
          go_wp2
        all_goals
          have HW2 : Hid (Below (wo.heap.size + 1) (wo.alloc (.cells #[.int .u32 xi, .slice xA xn xc] 45)) ((wo.alloc (.cells #[.int .u32 xi, .slice xA xn xc] 45)).drewN nq)) := Lib.hid (below_drewN (Below.refl _ _) _)
          clear c1 c2 c1a c2a e0 e1
          go_loopg [2, 30] xn (fun gk2 r2 i2 wQ => r2 = .int .i64 0 ∧ ∃ m : Nat, m ≤ xn ∧ gk2 = xn - m ∧ i2 = .int .i64 m ∧ Below (wo.heap.size + 1) (wo.alloc (.cells #[.int .u32 xi, .slice xA xn xc] 45)) wQ ∧ ∀ s ∈ xl.take m, SOk s)
        all_goals first
          | (exact ⟨rfl, 0, Nat.zero_le _, rfl, rfl, HW2.out, by simp⟩)
          | skip
        all_goals
          obtain ⟨rfl, m, hm, hgk2, rfl, hbi, hso⟩ := hrel
          have HGK2 := Lib.hid hgk2
          have HBI := Lib.hid hbi
          have HSO := Lib.hid hso
          have HB2 : Hid (Below wo.heap.size wo wr) := Lib.hid (((Below.refl _ wo).alloc (Nat.le_refl _) _).trans (hbi.mono (Nat.le_succ _)))
          have HBW : Hid (Below w.heap.size w wr) := Lib.hid (HB.out.trans (HB2.out.mono HB.out.size))
          have HSZ : Hid (wo.heap.size + 1 ≤ wr.heap.size) := Lib.hid (by have := hbi.size; simpa using this)
          clear hgk2 hbi hso
          by_cases hlt2 : m < xn
          · obtain ⟨s, hs'⟩ : ∃ s, xl[m]? = some s := ⟨xl[m]'(by rw [HS.out.len]; exact hlt2), by simp⟩
            obtain ⟨b2, o2, rfl, f1, f2⟩ := (HS.out.below HB2.out).get hs'
            have hm0 : (0 : Int) ≤ (m : Int) := by omega
            have hm1 : (m : Int) < (xn : Int) := by omega
            have HNS := Lib.hid (not_may_s HX.out hs')
            have HTK := Lib.hid (take_ok hs' HSO.out)
            obtain ⟨sl, sc⟩ := s
            simp only at *
            clear hs'
            by_cases q1 : sl < 1
            · go_wp2
              go_ret
              exact ⟨by rw [chk_no (HNS.out fun h => by have := h.1; simp only at this; omega)]; rfl, HBW.out.alloc HBW.out.size _⟩
            · by_cases q2 : 4096 < sl
              · go_wp2
                go_ret
                exact ⟨by rw [chk_no (HNS.out fun h => by have := h.2; simp only at this; omega)]; rfl, HBW.out.alloc HBW.out.size _⟩
              · go_wp2
                go_roundg (xn - (m + 1))
                case measure => rw [HGK2.out]; omega
                case rel => exact ⟨rfl, m + 1, by omega, rfl, by go_num, HBI.out.alloc HSZ.out _, HTK.out ⟨by simp only; omega, by simp only; omega⟩⟩
          · have HHD := Lib.hid (head_done (m := m) HX.out HID.out (by rw [HS.out.len]; omega) HSO.out)
            go_wp2
            go_roundg (n - (k + 1))
            case measure => rw [HK.out]; omega
            case rel =>
              refine ⟨rfl, k + 1, by omega, rfl, by go_num, HBW.out, fun j hj => ?_⟩
              by_cases hjk : j < k
              · exact HOK.out j hjk
              · obtain rfl : j = k := by omega
                exact HHD.out
      · obtain ⟨g, hg, hkp, hlt2⟩ : ∃ g, hs[k - 1]? = some g ∧ 0 < k ∧ xi ≤ g.id := by
          rcases hcase with ⟨h0, _⟩ | ⟨g, h1, h2, ⟨h3, _⟩ | ⟨_, h3⟩⟩
          · exact absurd h0 hidk
          · exact absurd h3 hidk
          · exact ⟨g, h1, h2, h3⟩
        have HNO := Lib.hid (chk_no (not_may_id hidk))
        obtain ⟨b', o', hb', d1, d2⟩ := (H.out.below HB.out).get hg
        obtain ⟨rfl, rfl⟩ : b = b' ∧ o = o' := by simpa using hb'
        have d1a := cell_al (.cells #[.int .u32 xi, .slice xA xn xc] 45) d1
        have hk2 : (0 : Int) < (k : Int) := by omega
        have hk3 : ((k : Int) - 1).toNat = k - 1 := by omega
        clear hb' hg hcase hidk
        go_wp2_with fail
        go_quiet (fail)
        go_wp2
        go_ret
        exact ⟨by rw [HNO.out]; rfl, below_drewN (HB.out.alloc HB.out.size _) _⟩
    · have HOUT : Hid (chk hs = 0) := Lib.hid (chk_ok (may_done (n := k) (by rw [H.out.len]; omega) HOK.out))
      go_wp2
      go_ret
      exact ⟨by rw [HOUT.out]; rfl, HB.out⟩
end Go.Proofs.Ytgdljjoaiogpfaa
