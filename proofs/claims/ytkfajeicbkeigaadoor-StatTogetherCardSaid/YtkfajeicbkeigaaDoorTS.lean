/- The walks over the reference's has, Whole, Gains, Both. -/
import Derived.Test.YtkfajeicbkeigaaDoorTR
namespace Go.Proofs.YtkfajeicbkeigaaDoor
open Go.RowKit Go.Maps
def hasB (us : List Us) (nm : Nm) (p : Plc) : Bool := us.any fun u => decide (u.nm = nm) && namesIt p u
theorem hasB_eq {us : List Us} {nm : Nm} {p : Plc} : hasB us nm p = decide (nm ∈ nmF (prs us) p) := by
  rw [Bool.eq_iff_iff, decide_eq_true_eq, ← nmU_mem]
  unfold hasB nmU
  rw [List.any_eq_true, List.mem_map]
  constructor
  · rintro ⟨u, hu, h⟩
    rw [Bool.and_eq_true, decide_eq_true_eq] at h
    exact ⟨u, List.mem_filter.2 ⟨hu, h.2⟩, h.1⟩
  · rintro ⟨u, hu, h⟩
    obtain ⟨h1, h2⟩ := List.mem_filter.1 hu
    exact ⟨u, h1, by rw [Bool.and_eq_true, decide_eq_true_eq]; exact ⟨h, h2⟩⟩
set_option maxRecDepth 100000 in
set_option maxHeartbeats 8000000 in
theorem has51 {A : Option Addr} {c : Nat} {vs : List Us} {w : World} (h : Uss w A vs) (hl : Lim vs) (nm : Nm) (p : Plc) :
    Calls Tryd.prog 51 #[.slice A vs.length c, .string (str nm), .agg #[.int .u32 p.1, .int .i64 p.2]] w fun e w' => e = .returned (.bool (hasB vs nm p)) ∧ Below w.heap.size w w' := by
  have H := Lib.hid h
  have hn := hl.1
  have HL := Lib.hid hl.2
  have HY : Hid (∀ u ∈ vs, u.nm = nm → namesIt p u = true → hasB vs nm p = true) := Lib.hid (fun u hu h1 h2 => List.any_eq_true.2 ⟨u, hu, by rw [h1, h2]; simp⟩)
  have HNF : Hid ((∀ u ∈ vs, (decide (u.nm = nm) && namesIt p u) = false) → hasB vs nm p = false) := Lib.hid (fun h => by
    unfold hasB
    rw [List.any_eq_false]
    exact fun u hu => by rw [h u hu]; simp)
  have HNI : Hid (∀ u, namesIt p u = decide (p ∈ u.cs.map (·.1))) := Lib.hid (fun u => rfl)
  have HATG : Hid (∀ W, Below w.heap.size w W → ∀ u ∈ vs, Calls Tryd.prog 33 #[.slice u.A u.cs.length u.c, .agg #[.int .u32 p.1, .int .i64 p.2]] W fun e w' => e = .returned (.int .i64 (atI u.cs p)) ∧ Below W.heap.size W w') := Lib.hid (fun W hb u hu => at33 ((H.out.below hb).2 u hu) (by have := (HL.out u hu).1; omega) p)
  have HANO : Hid (∀ u, namesIt p u = false → atI u.cs p = -1) := Lib.hid (fun u h => atI_no (by rw [HNI.out] at h; simpa using h))
  have HAYE : Hid (∀ u, namesIt p u = true → ∃ i : Nat, atI u.cs p = (i : Int)) := Lib.hid (fun u h => atI_pos (by rw [HNI.out] at h; simpa using h))
  generalize hasB vs nm p = R at *
  clear h hl
  have HB00 : Hid (Below w.heap.size w (w.alloc (.cells #[.int .u32 p.1, .int .i64 p.2] 65))) := Lib.hid ((Below.refl _ _).alloc (Nat.le_refl _) _)
  have HBOX : Hid (∀ W, Below (w.heap.size + 1) (w.alloc (.cells #[.int .u32 p.1, .int .i64 p.2] 65)) W → W.cell? ⟨w.heap.size, 0, none⟩ = some (.int .u32 p.1) ∧ W.cell? ⟨w.heap.size, 1, none⟩ = some (.int .i64 p.2)) := Lib.hid (fun W hb => ⟨box_below hb rfl rfl, box_below hb rfl rfl⟩)
  obtain ⟨pb, ps⟩ := p
  simp only at *
  go_enter Tryd.func51, Tryd.ntmps51
  go_wp2_with fail
  go_loopg [7] vs.length (fun gk i wr => ∃ k : Nat, k ≤ vs.length ∧ gk = vs.length - k ∧ i = .int .i64 k ∧ (∀ u ∈ vs.take k, (decide (u.nm = nm) && namesIt (pb, ps) u) = false) ∧ Below (w.heap.size + 1) (w.alloc (.cells #[.int .u32 pb, .int .i64 ps] 65)) wr)
  case atStart => exact ⟨0, Nat.zero_le _, rfl, rfl, by simp, Below.refl _ _⟩
  case round =>
    obtain ⟨k, hk, hgk, rfl, hall, hb⟩ := hrel
    have HK := Lib.hid hgk
    have HALL := Lib.hid hall
    have HB := Lib.hid hb
    have HBW : Hid (Below w.heap.size w wr) := Lib.hid (HB00.out.trans (hb.mono (Nat.le_succ _)))
    clear hgk hall hb
    by_cases hlt : k < vs.length
    · obtain ⟨u, hu⟩ : ∃ u, vs[k]? = some u := ⟨vs[k]'hlt, by simp⟩
      have HUM := Lib.hid (List.mem_of_getElem? hu)
      have HSZ : Hid (w.heap.size + 1 ≤ wr.drew.heap.size) := Lib.hid (by have := HB.out.size; simpa using this)
      have HGU : Hid (∀ W, Below w.heap.size w W → ∃ b o, A = some ⟨b, o, none⟩ ∧ b < W.heap.size ∧ W.rangeAt b (o + k * 2) (usV u) ∧ Cks W u.A u.cs) := Lib.hid (fun W hb => (H.out.below hb).get hu)
      have HBZ : Hid (Below (w.heap.size + 1) (w.alloc (.cells #[.int .u32 pb, .int .i64 ps] 65)) wr.drew) := Lib.hid (below_drew HB.out)
      have HBWZ : Hid (Below w.heap.size w wr.drew) := Lib.hid (below_drew HBW.out)
      obtain ⟨b, o, hA, _, _, _⟩ := HGU.out w (Below.refl _ _)
      subst hA
      have HSG : Hid (∀ W, Below (w.heap.size + 1) (w.alloc (.cells #[.int .u32 pb, .int .i64 ps] 65)) W → W.cell? ⟨b, o + k * 2, none⟩ = some (.string (str u.nm)) ∧ W.cell? ⟨b, o + k * 2 + 1, none⟩ = some (.slice u.A u.cs.length u.c) ∧ W.cell? ⟨w.heap.size, 0, none⟩ = some (.int .u32 pb) ∧ W.cell? ⟨w.heap.size, 1, none⟩ = some (.int .i64 ps)) := Lib.hid (fun W hb => by
        obtain ⟨b', o', e, _, h2, h3⟩ := HGU.out W (HB00.out.trans (hb.mono (Nat.le_succ _)))
        injection e with e
        injection e with e1 e2
        subst e1 e2
        exact ⟨h2 0 _ rfl, h2 1 _ rfl, HBOX.out W hb⟩)
      have HS0 := Lib.hid (HSG.out wr.drew HBZ.out)
      have HATU := Lib.hid (HATG.out _ HBWZ.out u HUM.out)
      have HAN := Lib.hid (HANO.out u)
      have HAY := Lib.hid (HAYE.out u)
      have HYU := Lib.hid (HY.out u HUM.out)
      have HTK : Hid ((decide (u.nm = nm) && namesIt (pb, ps) u) = false → ∀ v ∈ vs.take (k + 1), (decide (v.nm = nm) && namesIt (pb, ps) v) = false) := Lib.hid (fun h v hv => by
        rw [List.take_add_one, hu] at hv
        rcases List.mem_append.1 hv with hv | hv
        · exact HALL.out v hv
        · simp only [Option.toList_some, List.mem_singleton] at hv
          rw [hv]; exact h)
      obtain ⟨un, uA, uc, cs⟩ := u
      simp only at *
      have hk0 : (0 : Int) ≤ (k : Int) := by omega
      have hk1 : (k : Int) < (vs.length : Int) := by omega
      have hbq := str_beq un nm
      clear hu
      generalize hP : namesIt (pb, ps) ⟨un, uA, uc, cs⟩ = P at *
      generalize atI cs (pb, ps) = ai at *
      clear hP
      by_cases hvn : un = nm
      · rw [show decide (un = nm) = true by simpa using hvn] at hbq HTK
        cases P
        case false =>
          have hai := HAN.out rfl
          subst hai
          clear hvn HYU
          go_wp2_with fail
          go_region_held3 (fun W => W.cell? ⟨b, o + k * 2, none⟩ = some (.string (str un)) ∧ W.cell? ⟨b, o + k * 2 + 1, none⟩ = some (.slice uA cs.length uc) ∧ W.cell? ⟨w.heap.size, 0, none⟩ = some (.int .u32 pb) ∧ W.cell? ⟨w.heap.size, 1, none⟩ = some (.int .i64 ps)) (first | exact HS0.out | exact HS3.out)
            (first
              | (go_at_call 33; (with_reducible refine HATU.out.mono ?_); rintro e w3 ⟨rfl, hb3⟩; have HS3 := Lib.hid (HSG.out w3 (HBZ.out.trans (hb3.mono HSZ.out)))))
          have HB3 : Hid (Below (w.heap.size + 1) (w.alloc (.cells #[.int .u32 pb, .int .i64 ps] 65)) w3) := Lib.hid (HBZ.out.trans (hb3.mono HSZ.out))
          clear hb3
          go_wp2_with fail
          go_roundg (vs.length - (k + 1))
          case measure => rw [HK.out]; omega
          case rel => exact ⟨k + 1, by omega, rfl, by go_num, HTK.out rfl, HB3.out⟩
        case true =>
          obtain ⟨i, hi⟩ := HAY.out rfl
          subst hi
          have hi0 : (0 : Int) ≤ (i : Int) := by omega
          have hR := HYU.out hvn rfl
          subst hR
          clear hvn HYU
          go_wp2_with fail
          go_region_held3 (fun W => W.cell? ⟨b, o + k * 2, none⟩ = some (.string (str un)) ∧ W.cell? ⟨b, o + k * 2 + 1, none⟩ = some (.slice uA cs.length uc) ∧ W.cell? ⟨w.heap.size, 0, none⟩ = some (.int .u32 pb) ∧ W.cell? ⟨w.heap.size, 1, none⟩ = some (.int .i64 ps)) (first | exact HS0.out | exact HS3.out)
            (first
              | (go_at_call 33; (with_reducible refine HATU.out.mono ?_); rintro e w3 ⟨rfl, hb3⟩; have HS3 := Lib.hid (HSG.out w3 (HBZ.out.trans (hb3.mono HSZ.out)))))
          have HB3 : Hid (Below w.heap.size w w3) := Lib.hid (HBWZ.out.trans (hb3.mono HBWZ.out.size))
          clear hb3
          go_wp2_with fail
          go_ret
          exact ⟨rfl, HB3.out⟩
      · rw [show decide (un = nm) = false by simpa using hvn] at hbq HTK
        clear hvn HYU
        go_wp2_with fail
        have g0 := HS0.out.1
        have g0' : wr.cell? ⟨b, o + k * 2, none⟩ = some (.string (str un)) := g0
        go_quiet (fail)
        go_wp2_with fail
        go_roundg (vs.length - (k + 1))
        case measure => rw [HK.out]; omega
        case rel => exact ⟨k + 1, by omega, rfl, by go_num, HTK.out (Bool.false_and _), below_drewN HB.out _⟩
    · obtain rfl : k = vs.length := by omega
      have hR := HNF.out (by have := HALL.out; rwa [List.take_length] at this)
      subst hR
      go_wp2_with fail
      go_ret
      exact ⟨rfl, HBW.out⟩
end Go.Proofs.YtkfajeicbkeigaaDoor
