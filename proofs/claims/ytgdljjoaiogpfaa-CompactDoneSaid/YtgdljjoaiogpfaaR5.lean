/- The walks over the reference's Empty and Mixed. -/
import Derived.Test.YtgdljjoaiogpfaaR4
namespace Go.Proofs.Ytgdljjoaiogpfaa
open Go.RowKit Go.Maps
set_option maxRecDepth 100000 in
set_option maxHeartbeats 2000000 in
theorem rempty27 {w : World} {A : Option Addr} {n c : Nat} {hs : List Hd} {B : Option Addr} {m d : Nat} {named : List Plc} (h : InOk w A n hs B m named) :
    Calls Try.prog 27 #[.slice A n c, .slice B m d] w fun e w' => ∃ v, e = .returned v ∧ Below w.heap.size w w' ∧ w'.ownsRow w.heap.size 33 1 v (pick isEmpty named hs).length ((pick isEmpty named hs).map idV) := by
  have H := Lib.hid h.hd
  have HLM := Lib.hid h.lim
  have HN : Hid (n ≤ 1000) := by have := h.lim.1; rw [h.hd.len] at this; exact this
  have HCALL : Hid (∀ V, Below w.heap.size w V → ∀ x : Hd, x.n ≤ 1000 → Calls Try.prog 16 #[.agg #[.int .u32 x.id, .slice x.A x.n x.c], .slice B m d, .bool true] V fun e w' => ∃ v, e = .returned v ∧ Below V.heap.size V w' ∧ w'.ownsRow V.heap.size 39 2 v (part named x true).length (rowP (part named x true))) := Lib.hid (fun V hV x hx => part16 (h.pl.below hV) h.mm x hx true)
  clear h
  obtain ⟨i0, hi, hz0, hz1, hz2⟩ := info_parts info33
  have I0 := Lib.hid hi
  have Z0 := Lib.hid hz0
  have S0 := Lib.hid hz1
  have Y0 := Lib.hid hz2
  clear hi hz0 hz1 hz2
  go_enter Try.func27, Try.ntmps27
  go_wp2_with fail
  go_loopg [5, 6] n (fun gk v i wr => ∃ k : Nat, k ≤ n ∧ gk = n - k ∧ i = .int .i64 k ∧ Below w.heap.size w wr ∧ wr.ownsRow w.heap.size 33 1 v (pick isEmpty named (hs.take k)).length ((pick isEmpty named (hs.take k)).map idV))
  case atStart => exact ⟨0, Nat.zero_le _, rfl, rfl, Below.refl _ _, World.ownsRow_nil _ _ _ _⟩
  case round =>
    obtain ⟨k, hk, hgk, rfl, hb, hr⟩ := hrel
    obtain ⟨AA, ac, hv⟩ := own_slice hr
    subst hv
    have HK := Lib.hid hgk
    have HB := Lib.hid hb
    have HR := Lib.hid hr
    have HN' := HN.out
    clear hgk hb hr
    by_cases hlt : k < n
    · obtain ⟨x, hx⟩ : ∃ x, hs[k]? = some x := ⟨hs[k]'(by rw [H.out.len]; exact hlt), by simp⟩
      obtain ⟨b, o, rfl, c1, c2⟩ := (H.out.below HB.out).get hx
      have hk0 : (0 : Int) ≤ (k : Int) := by omega
      have hk1 : (k : Int) < (n : Int) := by omega
      have hxl : x.n ≤ 1000 := HLM.out.2 x (List.mem_of_getElem? hx)
      have HCL := Lib.hid (HCALL.out wr HB.out x hxl)
      have HTK : Hid (hs.take (k + 1) = hs.take k ++ [x]) := Lib.hid (by rw [List.take_add_one, hx]; rfl)
      have HL1 : Hid ((pick isEmpty named (hs.take k)).length ≤ 1000) := Lib.hid (by
        have q := pick_len isEmpty named (hs.take k)
        have : (hs.take k).length ≤ k := by simp; omega
        omega)
      clear hx hxl
      go_wp2_with fail
      refine Calls.mono HCL.out ?_
      rintro e w1 ⟨v2, rfl, hb1, hr2⟩
      obtain ⟨A2, ac2, hv2⟩ := own_slice hr2
      subst hv2
      obtain ⟨k1, hk1e⟩ : ∃ k1, (part named x true).length = k1 := ⟨_, rfl⟩
      have HSEL : Hid (isEmpty named x = decide (k1 = 0)) := Lib.hid (by rw [isEmpty, hk1e]; rfl)
      rw [hk1e]
      clear hr2 hk1e
      have HB1 := Lib.hid hb1
      have HR1 := Lib.hid (HR.out.kept (grown_of_below hb1) (by rcases hoo : Value.ownBlock (.slice AA (pick isEmpty named (hs.take k)).length ac) with _ | g <;> simp))
      have HBW : Hid (Below w.heap.size w w1) := Lib.hid (HB.out.trans (hb1.mono HB.out.size))
      have c1a := below_cell hb1 c1
      clear hb1 HCL HCALL c1 c2
      by_cases hz : k1 = 0
      · rw [decide_eq_true hz] at HSEL
        go_wp2_with (first
          | (at_builtin; refine wpList_append_own _ rfl (.tmp 21) (.tmp 27) _ rfl w.heap.size 33 i0 _ 1 4 Try.underlying30 I0.out Z0.out S0.out Y0.out rfl (by decide) _ _ _ rfl (HR1.out.alloc _) _ 1 1 [.int .u32 x.id] rfl rfl (new1 _ _ _ _ rfl) (by simp [Value.oneCell']) (by have := HL1.out; simp only [maxLen]; omega) (by have := HL1.out; omega) (by have := HBW.out.size; simp; omega) ?_))
        intro v' w2 hown' hgrow _
        obtain ⟨A3, ac3, hv3⟩ := own_slice hown'
        subst hv3
        go_wp2
        go_roundg (n - (k + 1))
        case measure => rw [HK.out]; omega
        case rel =>
          refine ⟨k + 1, by omega, rfl, by go_num, (HBW.out.alloc HBW.out.size _).grown hgrow (by have := HBW.out.size; simp; omega) (fun j e => (HR1.out.lt j e).1), ?_⟩
          rw [HTK.out, pick_yes HSEL.out, List.map_append, List.length_append]
          exact hown'
      · rw [decide_eq_false hz] at HSEL
        go_wp2
        go_roundg (n - (k + 1))
        case measure => rw [HK.out]; omega
        case rel => exact ⟨k + 1, by omega, rfl, by go_num, HBW.out, by rw [HTK.out, pick_no HSEL.out]; exact HR1.out⟩
    · have HT : Hid (hs.take k = hs) := Lib.hid (List.take_of_length_le (by rw [H.out.len]; omega))
      go_wp2
      go_ret
      exact ⟨_, rfl, HB.out, (by have q := HR.out; rw [HT.out] at q ⊢; exact q)⟩
set_option maxRecDepth 100000 in
set_option maxHeartbeats 2000000 in
theorem rmixed28 {w : World} {A : Option Addr} {n c : Nat} {hs : List Hd} {B : Option Addr} {m d : Nat} {named : List Plc} (h : InOk w A n hs B m named) :
    Calls Try.prog 28 #[.slice A n c, .slice B m d] w fun e w' => ∃ v, e = .returned v ∧ Below w.heap.size w w' ∧ w'.ownsRow w.heap.size 33 1 v (pick isMixed named hs).length ((pick isMixed named hs).map idV) := by
  have H := Lib.hid h.hd
  have HLM := Lib.hid h.lim
  have HN : Hid (n ≤ 1000) := by have := h.lim.1; rw [h.hd.len] at this; exact this
  have HCALL : Hid (∀ V, Below w.heap.size w V → ∀ x : Hd, x.n ≤ 1000 → Calls Try.prog 31 #[.agg #[.int .u32 x.id, .slice x.A x.n x.c], .slice B m d] V fun e w' => e = .returned (.bool (isMixed named x)) ∧ Below V.heap.size V w') := Lib.hid (fun V hV x hx => rmixed31 (h.pl.below hV) h.mm x hx)
  clear h
  obtain ⟨i0, hi, hz0, hz1, hz2⟩ := info_parts info33
  have I0 := Lib.hid hi
  have Z0 := Lib.hid hz0
  have S0 := Lib.hid hz1
  have Y0 := Lib.hid hz2
  clear hi hz0 hz1 hz2
  go_enter Try.func28, Try.ntmps28
  go_wp2_with fail
  go_loopg [5, 6] n (fun gk v i wr => ∃ k : Nat, k ≤ n ∧ gk = n - k ∧ i = .int .i64 k ∧ Below w.heap.size w wr ∧ wr.ownsRow w.heap.size 33 1 v (pick isMixed named (hs.take k)).length ((pick isMixed named (hs.take k)).map idV))
  case atStart => exact ⟨0, Nat.zero_le _, rfl, rfl, Below.refl _ _, World.ownsRow_nil _ _ _ _⟩
  case round =>
    obtain ⟨k, hk, hgk, rfl, hb, hr⟩ := hrel
    obtain ⟨AA, ac, hv⟩ := own_slice hr
    subst hv
    have HK := Lib.hid hgk
    have HB := Lib.hid hb
    have HR := Lib.hid hr
    have HN' := HN.out
    clear hgk hb hr
    by_cases hlt : k < n
    · obtain ⟨x, hx⟩ : ∃ x, hs[k]? = some x := ⟨hs[k]'(by rw [H.out.len]; exact hlt), by simp⟩
      obtain ⟨b, o, rfl, c1, c2⟩ := (H.out.below HB.out).get hx
      have hk0 : (0 : Int) ≤ (k : Int) := by omega
      have hk1 : (k : Int) < (n : Int) := by omega
      have hxl : x.n ≤ 1000 := HLM.out.2 x (List.mem_of_getElem? hx)
      have HCL := Lib.hid (HCALL.out wr HB.out x hxl)
      have HTK : Hid (hs.take (k + 1) = hs.take k ++ [x]) := Lib.hid (by rw [List.take_add_one, hx]; rfl)
      have HL1 : Hid ((pick isMixed named (hs.take k)).length ≤ 1000) := Lib.hid (by
        have q := pick_len isMixed named (hs.take k)
        have : (hs.take k).length ≤ k := by simp; omega
        omega)
      clear hx hxl
      go_wp2_with fail
      refine Calls.mono HCL.out ?_
      rintro e w1 ⟨rfl, hb1⟩
      have HB1 := Lib.hid hb1
      have HR1 := Lib.hid (HR.out.kept (grown_of_below hb1) (by rcases hoo : Value.ownBlock (.slice AA (pick isMixed named (hs.take k)).length ac) with _ | g <;> simp))
      have HBW : Hid (Below w.heap.size w w1) := Lib.hid (HB.out.trans (hb1.mono HB.out.size))
      have c1a := below_cell hb1 c1
      clear hb1 HCL HCALL c1 c2
      by_cases hz : isMixed named x = true
      · have HSEL := Lib.hid hz
        rw [hz]
        clear hz
        go_wp2_with (first
          | (at_builtin; refine wpList_append_own _ rfl (.tmp 19) (.tmp 25) _ rfl w.heap.size 33 i0 _ 1 4 Try.underlying30 I0.out Z0.out S0.out Y0.out rfl (by decide) _ _ _ rfl (HR1.out.alloc _) _ 1 1 [.int .u32 x.id] rfl rfl (new1 _ _ _ _ rfl) (by simp [Value.oneCell']) (by have := HL1.out; simp only [maxLen]; omega) (by have := HL1.out; omega) (by have := HBW.out.size; simp; omega) ?_))
        intro v' w2 hown' hgrow _
        obtain ⟨A3, ac3, hv3⟩ := own_slice hown'
        subst hv3
        go_wp2
        go_roundg (n - (k + 1))
        case measure => rw [HK.out]; omega
        case rel =>
          refine ⟨k + 1, by omega, rfl, by go_num, (HBW.out.alloc HBW.out.size _).grown hgrow (by have := HBW.out.size; simp; omega) (fun j e => (HR1.out.lt j e).1), ?_⟩
          rw [HTK.out, pick_yes HSEL.out, List.map_append, List.length_append]
          exact hown'
      · have hzf : isMixed named x = false := by simpa using hz
        have HSEL := Lib.hid hzf
        rw [hzf]
        clear hz hzf
        go_wp2
        go_roundg (n - (k + 1))
        case measure => rw [HK.out]; omega
        case rel => exact ⟨k + 1, by omega, rfl, by go_num, HBW.out, by rw [HTK.out, pick_no HSEL.out]; exact HR1.out⟩
    · have HT : Hid (hs.take k = hs) := Lib.hid (List.take_of_length_le (by rw [H.out.len]; omega))
      go_wp2
      go_ret
      exact ⟨_, rfl, HB.out, (by have q := HR.out; rw [HT.out] at q ⊢; exact q)⟩
end Go.Proofs.Ytgdljjoaiogpfaa
