/- The walks over the reference's By and has. -/
import Derived.Test.YtkfajeicbkeigaaDoorTQ
namespace Go.Proofs.YtkfajeicbkeigaaDoor
open Go.RowKit Go.Maps
def namesIt (p : Plc) (u : Us) : Bool := decide (p ∈ u.cs.map (·.1))
/-- the names of the uses that name a place -/
def nmU (us : List Us) (p : Plc) : List Nm := (us.filter (namesIt p)).map (·.nm)
theorem nmU_step {us : List Us} {p : Plc} {k : Nat} {u : Us} (h : us[k]? = some u) : nmU (us.take (k + 1)) p = if namesIt p u = true then nmU (us.take k) p ++ [u.nm] else nmU (us.take k) p := by
  unfold nmU
  rw [List.take_add_one, h, Option.toList_some, List.filter_append, List.map_append]
  cases hp : namesIt p u <;> simp [hp]
theorem nmU_mem {us : List Us} {p : Plc} {x : Nm} : x ∈ nmU us p ↔ x ∈ nmF (prs us) p := by
  unfold nmU nmF
  rw [List.mem_map, List.mem_map]
  constructor
  · rintro ⟨u, hu, rfl⟩
    obtain ⟨h1, h2⟩ := List.mem_filter.1 hu
    unfold namesIt at h2
    rw [decide_eq_true_eq] at h2
    obtain ⟨c, hc, e⟩ := List.mem_map.1 h2
    exact ⟨(u.nm, c), List.mem_filter.2 ⟨mem_prs.2 ⟨u, h1, c, hc, rfl⟩, by simpa using e⟩, rfl⟩
  · rintro ⟨y, hy, rfl⟩
    obtain ⟨h1, h2⟩ := List.mem_filter.1 hy
    obtain ⟨u, hu, c, hc, rfl⟩ := mem_prs.1 h1
    simp only [decide_eq_true_eq] at h2
    exact ⟨u, List.mem_filter.2 ⟨hu, by unfold namesIt; rw [decide_eq_true_eq]; exact List.mem_map.2 ⟨c, hc, h2⟩⟩, rfl⟩
/-- is a place named by one of some names, and by none else? -/
def byB (us : List Us) (p : Plc) (ns : List Nm) : Bool := !(nmU us p).isEmpty && allIn (nmU us p) ns
theorem byB_eq {us : List Us} {p : Plc} {ns : List Nm} (h : p ∈ plSet (prs us)) : byB us p ns = allIn (nmF (prs us) p) ns := by
  have h1 : nmU us p ≠ [] := by
    obtain ⟨y, hy, e⟩ := plSet_mem.1 h
    have : y.1 ∈ nmU us p := nmU_mem.2 (List.mem_map.2 ⟨y, List.mem_filter.2 ⟨hy, by simpa using e⟩, rfl⟩)
    intro e2
    rw [e2] at this
    cases this
  have h2 : (nmU us p).isEmpty = false := by
    cases hn : nmU us p with
    | nil => exact absurd hn h1
    | cons _ _ => rfl
  unfold byB
  rw [h2, Bool.not_false, Bool.true_and]
  unfold allIn
  rw [Bool.eq_iff_iff, List.all_eq_true, List.all_eq_true]
  exact ⟨fun h x hx => h x (nmU_mem.2 hx), fun h x hx => h x (nmU_mem.1 hx)⟩
def inN (ns : List Nm) (nm : Nm) (j : Nat) : Bool := decide (nm ∈ ns.take j)
theorem inN_step {ns : List Nm} {nm : Nm} {j : Nat} {s : Nm} (h : ns[j]? = some s) : inN ns nm (j + 1) = (inN ns nm j || decide (s = nm)) := by
  unfold inN
  rw [List.take_add_one, h, Option.toList_some, Bool.eq_iff_iff, Bool.or_eq_true, decide_eq_true_eq, decide_eq_true_eq, decide_eq_true_eq, List.mem_append, List.mem_singleton]
  exact ⟨fun h => h.imp id Eq.symm, fun h => h.imp id Eq.symm⟩
theorem atI_pos {cs : List Ck} {p : Plc} (h : p ∈ cs.map (·.1)) : ∃ i : Nat, atI cs p = (i : Int) := by
  obtain ⟨i, _, h1, _⟩ := atI_yes h
  exact ⟨i, h1⟩
set_option maxRecDepth 100000 in
set_option maxHeartbeats 8000000 in
theorem by34 {A NA : Option Addr} {c cc : Nat} {vs : List Us} {ns : List Nm} {w : World} (h : Uss w A vs) (hl : Lim vs) (hns : Nms w NA ns) (hnn : ns.length ≤ 1000) (p : Plc) :
    Calls Tryd.prog 34 #[.slice A vs.length c, .agg #[.int .u32 p.1, .int .i64 p.2], .slice NA ns.length cc] w fun e w' => e = .returned (.bool (byB vs p ns)) ∧ Below w.heap.size w w' := by
  have H := Lib.hid h
  have HNS := Lib.hid hns
  have hn := hl.1
  have HL := Lib.hid hl.2
  have HST : Hid (∀ k u, vs[k]? = some u → nmU (vs.take (k + 1)) p = if namesIt p u = true then nmU (vs.take k) p ++ [u.nm] else nmU (vs.take k) p) := Lib.hid (fun k u hu => nmU_step hu)
  have HEND : Hid (nmU (vs.take vs.length) p = nmU vs p) := Lib.hid (by rw [List.take_length])
  have HBY : Hid (byB vs p ns = (!(nmU vs p).isEmpty && allIn (nmU vs p) ns)) := Lib.hid rfl
  have HNO : Hid (∀ u ∈ vs, namesIt p u = true → u.nm ∉ ns → byB vs p ns = false) := Lib.hid (fun u hu hp hx => by
    unfold byB
    rw [show allIn (nmU vs p) ns = false by
      rw [Bool.eq_false_iff]
      intro ha
      unfold allIn at ha
      rw [List.all_eq_true] at ha
      exact hx (by simpa using ha u.nm (List.mem_map.2 ⟨u, List.mem_filter.2 ⟨hu, hp⟩, rfl⟩))]
    exact Bool.and_false _)
  have HNI : Hid (∀ u, namesIt p u = decide (p ∈ u.cs.map (·.1))) := Lib.hid (fun u => rfl)
  generalize byB vs p ns = R at *
  generalize nmU vs p = NU at *
  generalize hN : (fun k => nmU (vs.take k) p) = N at *
  have HN : Hid (∀ k, nmU (vs.take k) p = N k) := Lib.hid (fun k => congrFun hN k)
  have HST2 : Hid (∀ k u, vs[k]? = some u → N (k + 1) = if namesIt p u = true then N k ++ [u.nm] else N k) := Lib.hid (fun k u hu => by rw [← HN.out, ← HN.out]; exact HST.out k u hu)
  have HE2 : Hid (N vs.length = NU) := Lib.hid (by rw [← HN.out]; exact HEND.out)
  have HN0 : Hid (N 0 = []) := Lib.hid (by rw [← HN.out]; rfl)
  clear h hl hns hN HST HEND
  have HB00 : Hid (Below w.heap.size w (w.alloc (.cells #[.int .u32 p.1, .int .i64 p.2] 65))) := Lib.hid ((Below.refl _ _).alloc (Nat.le_refl _) _)
  have HBOX : Hid (∀ W, Below (w.heap.size + 1) (w.alloc (.cells #[.int .u32 p.1, .int .i64 p.2] 65)) W → W.cell? ⟨w.heap.size, 0, none⟩ = some (.int .u32 p.1) ∧ W.cell? ⟨w.heap.size, 1, none⟩ = some (.int .i64 p.2)) := Lib.hid (fun W hb => ⟨box_below hb rfl rfl, box_below hb rfl rfl⟩)
  have HATG : Hid (∀ W, Below w.heap.size w W → ∀ u ∈ vs, Calls Tryd.prog 33 #[.slice u.A u.cs.length u.c, .agg #[.int .u32 p.1, .int .i64 p.2]] W fun e w' => e = .returned (.int .i64 (atI u.cs p)) ∧ Below W.heap.size W w') := Lib.hid (fun W hb u hu => at33 ((H.out.below hb).2 u hu) (by have := (HL.out u hu).1; omega) p)
  have HANO : Hid (∀ u, namesIt p u = false → atI u.cs p = -1) := Lib.hid (fun u h => atI_no (by rw [HNI.out] at h; simpa using h))
  have HAYE : Hid (∀ u, namesIt p u = true → ∃ i : Nat, atI u.cs p = (i : Int)) := Lib.hid (fun u h => atI_pos (by rw [HNI.out] at h; simpa using h))
  obtain ⟨pb, ps⟩ := p
  simp only at *
  go_enter Tryd.func34, Tryd.ntmps34
  go_wp2_with fail
  go_loopg [7, 8] vs.length (fun gk s i wr => ∃ k : Nat, k ≤ vs.length ∧ gk = vs.length - k ∧ i = .int .i64 k ∧ s = .bool (!(N k).isEmpty) ∧ (∀ x ∈ N k, x ∈ ns) ∧ Below (w.heap.size + 1) (w.alloc (.cells #[.int .u32 pb, .int .i64 ps] 65)) wr)
  case atStart => exact ⟨0, Nat.zero_le _, rfl, rfl, by rw [HN0.out]; rfl, by rw [HN0.out]; simp, Below.refl _ _⟩
  case round =>
    obtain ⟨k, hk, hgk, rfl, rfl, hall, hb⟩ := hrel
    have HK := Lib.hid hgk
    have HALL := Lib.hid hall
    have HB := Lib.hid hb
    have HBW : Hid (Below w.heap.size w wr) := Lib.hid (HB00.out.trans (hb.mono (Nat.le_succ _)))
    clear hgk hall hb
    by_cases hlt : k < vs.length
    · obtain ⟨u, hu⟩ : ∃ u, vs[k]? = some u := ⟨vs[k]'hlt, by simp⟩
      have HUM := Lib.hid (List.mem_of_getElem? hu)
      have HGU : Hid (∀ W, Below w.heap.size w W → ∃ b o, A = some ⟨b, o, none⟩ ∧ b < W.heap.size ∧ W.rangeAt b (o + k * 2) (usV u) ∧ Cks W u.A u.cs) := Lib.hid (fun W hb => (H.out.below hb).get hu)
      obtain ⟨b, o, hA, _, _, _⟩ := HGU.out w (Below.refl _ _)
      subst hA
      have HGV : Hid (∀ W, Below w.heap.size w W → W.cell? ⟨b, o + k * 2, none⟩ = some (.string (str u.nm)) ∧ W.cell? ⟨b, o + k * 2 + 1, none⟩ = some (.slice u.A u.cs.length u.c)) := Lib.hid (fun W hb => by
        obtain ⟨b', o', e, _, h2, h3⟩ := HGU.out W hb
        injection e with e
        injection e with e1 e2
        subst e1 e2
        exact ⟨h2 0 _ rfl, h2 1 _ rfl⟩)
      have HSK := Lib.hid (HST2.out k u hu)
      have HNOU := Lib.hid (HNO.out u HUM.out)
      have HATU : Hid (∀ W, Below w.heap.size w W → Calls Tryd.prog 33 #[.slice u.A u.cs.length u.c, .agg #[.int .u32 pb, .int .i64 ps]] W fun e w' => e = .returned (.int .i64 (atI u.cs (pb, ps))) ∧ Below W.heap.size W w') := Lib.hid (fun W hb => HATG.out W hb u HUM.out)
      have HAN := Lib.hid (HANO.out u)
      have HAY := Lib.hid (HAYE.out u)
      obtain ⟨nm, uA, uc, cs⟩ := u
      simp only at *
      have hk0 : (0 : Int) ≤ (k : Int) := by omega
      have hk1 : (k : Int) < (vs.length : Int) := by omega
      clear hu
      obtain ⟨WZ, hWZ⟩ : ∃ W, W = wr.drew := ⟨_, rfl⟩
      have HBZ : Hid (Below (w.heap.size + 1) (w.alloc (.cells #[.int .u32 pb, .int .i64 ps] 65)) WZ) := Lib.hid (by subst hWZ; exact below_drew HB.out)
      have HBWZ : Hid (Below w.heap.size w WZ) := Lib.hid (by subst hWZ; exact below_drew HBW.out)
      have HWZ := Lib.hid hWZ
      obtain ⟨g0, g1⟩ := HGV.out _ HBWZ.out
      obtain ⟨d0, d1⟩ := HBOX.out _ HBZ.out
      clear hWZ
      generalize hP : namesIt (pb, ps) ⟨nm, uA, uc, cs⟩ = P at *
      generalize atI cs (pb, ps) = ai at *
      clear hP
      cases P
      case false =>
        have hai := HAN.out rfl
        subst hai
        have HT : Hid (N (k + 1) = N k) := Lib.hid (by rw [HSK.out]; simp)
        go_wp2_with fail
        refine still_at 6 (by kernel_rfl) (by kernel_rfl) HWZ.out ?_
        simp only [List.take_succ_cons, List.take_zero, List.drop_succ_cons, List.drop_zero]
        repeat still_step
        refine wpStill_nil ?_
        go_wp2_with fail
        refine Calls.mono (HATU.out _ HBWZ.out) ?_
        rintro e w3 ⟨rfl, hb3⟩
        have HB3 : Hid (Below (w.heap.size + 1) (w.alloc (.cells #[.int .u32 pb, .int .i64 ps] 65)) w3) := Lib.hid (HBZ.out.trans (hb3.mono (by have := HBZ.out.size; simpa using this)))
        clear hb3 g0 g1 d0 d1
        go_wp2_with fail
        go_roundg (vs.length - (k + 1))
        case measure => rw [HK.out]; omega
        case rel => exact ⟨k + 1, by omega, rfl, by go_num, by rw [HT.out], by rw [HT.out]; exact HALL.out, HB3.out⟩
      case true =>
        obtain ⟨i, hi⟩ := HAY.out rfl
        subst hi
        have hi0 : ¬ (i : Int) < 0 := by omega
        have HT : Hid (N (k + 1) = N k ++ [nm]) := Lib.hid (by rw [HSK.out]; simp)
        go_wp2_with fail
        refine still_at 6 (by kernel_rfl) (by kernel_rfl) HWZ.out ?_
        simp only [List.take_succ_cons, List.take_zero, List.drop_succ_cons, List.drop_zero]
        repeat still_step
        refine wpStill_nil ?_
        go_wp2_with fail
        refine Calls.mono (HATU.out _ HBWZ.out) ?_
        rintro e w3 ⟨rfl, hb3⟩
        have HB3 : Hid (Below (w.heap.size + 1) (w.alloc (.cells #[.int .u32 pb, .int .i64 ps] 65)) w3) := Lib.hid (HBZ.out.trans (hb3.mono (by have := HBZ.out.size; simpa using this)))
        have HBW3 : Hid (Below w.heap.size w w3) := Lib.hid (HB00.out.trans (HB3.out.mono (Nat.le_succ _)))
        clear hb3 g0 g1 d0 d1
        go_wp2_with fail
        go_loopg [9, 10] ns.length (fun gj tv jv wQ => ∃ j : Nat, j ≤ ns.length ∧ gj = ns.length - j ∧ jv = .int .i64 j ∧ tv = .bool (inN ns nm j) ∧ Below (w.heap.size + 1) (w.alloc (.cells #[.int .u32 pb, .int .i64 ps] 65)) wQ)
        case atStart => exact ⟨0, Nat.zero_le _, rfl, rfl, by simp [inN], HB3.out⟩
        case round =>
          obtain ⟨j, hj, hgj, rfl, rfl, hbq⟩ := hrel
          have HJ := Lib.hid hgj
          have HBQ := Lib.hid hbq
          have HBWQ : Hid (Below w.heap.size w wr) := Lib.hid (HB00.out.trans (HBQ.out.mono (Nat.le_succ _)))
          clear hgj hbq
          by_cases hjl : j < ns.length
          · obtain ⟨s, hs⟩ : ∃ s, ns[j]? = some s := ⟨ns[j]'hjl, by simp⟩
            obtain ⟨b2, o2, hA2, _, hcs⟩ := (HNS.out.below HBWQ.out).get (by rintro rfl; simp at hjl)
            subst hA2
            have f0 := hcs j s hs
            obtain ⟨g0, g1⟩ := HGV.out _ HBWQ.out
            have HIS := Lib.hid (inN_step (nm := nm) hs)
            have hj0 : (0 : Int) ≤ (j : Int) := by omega
            have hj1 : (j : Int) < (ns.length : Int) := by omega
            have hbq := str_beq s nm
            clear hs hcs
            cases ht : inN ns nm j
            case true =>
              have HE : Hid (inN ns nm (j + 1) = true) := Lib.hid (by rw [HIS.out, ht]; rfl)
              clear ht
              go_wp2_with fail
              go_quiet (fail)
              go_wp2_with fail
              go_roundg (ns.length - (j + 1))
              case measure => rw [HJ.out]; omega
              case rel => exact ⟨j + 1, by omega, rfl, by go_num, by rw [HE.out], below_drewN HBQ.out _⟩
            case false =>
              by_cases hvn : s = nm
              · have HE : Hid (inN ns nm (j + 1) = true) := Lib.hid (by rw [HIS.out, hvn]; simp)
                rw [show decide (s = nm) = true by simpa using hvn] at hbq
                clear ht hvn
                go_wp2_with fail
                go_quiet (fail)
                go_wp2_with fail
                go_roundg (ns.length - (j + 1))
                case measure => rw [HJ.out]; omega
                case rel => exact ⟨j + 1, by omega, rfl, by go_num, by rw [HE.out], below_drewN HBQ.out _⟩
              · have HE : Hid (inN ns nm (j + 1) = false) := Lib.hid (by rw [HIS.out, ht]; simpa using hvn)
                rw [show decide (s = nm) = false by simpa using hvn] at hbq
                clear ht hvn
                go_wp2_with fail
                go_quiet (fail)
                go_wp2_with fail
                go_roundg (ns.length - (j + 1))
                case measure => rw [HJ.out]; omega
                case rel => exact ⟨j + 1, by omega, rfl, by go_num, by rw [HE.out], below_drewN HBQ.out _⟩
          · obtain rfl : j = ns.length := by omega
            have HIE : Hid (inN ns nm ns.length = decide (nm ∈ ns)) := Lib.hid (by unfold inN; rw [List.take_length])
            by_cases hin : nm ∈ ns
            · rw [HIE.out, show decide (nm ∈ ns) = true by simpa using hin]
              have HA2 : Hid (∀ x ∈ N (k + 1), x ∈ ns) := Lib.hid (fun x hx => by
                rw [HT.out] at hx
                rcases List.mem_append.1 hx with hx | hx
                · exact HALL.out x hx
                · rw [List.mem_singleton] at hx; subst hx; exact hin)
              have HS2 : Hid ((!(N (k + 1)).isEmpty) = true) := Lib.hid (by rw [HT.out]; simp)
              clear hin
              go_wp2_with fail
              go_roundg (vs.length - (k + 1))
              case measure => rw [HK.out]; omega
              case rel => exact ⟨k + 1, by omega, rfl, by go_num, by rw [HS2.out], HA2.out, HBQ.out⟩
            · rw [HIE.out, show decide (nm ∈ ns) = false by simpa using hin]
              have hR := HNOU.out trivial hin
              subst hR
              clear hin
              go_wp2_with fail
              go_ret
              exact ⟨rfl, HBWQ.out⟩
    · obtain rfl : k = vs.length := by omega
      have HR : Hid (R = !(N vs.length).isEmpty) := Lib.hid (by
        rw [HBY.out, ← HE2.out]
        have : allIn (N vs.length) ns = true := by
          unfold allIn
          rw [List.all_eq_true]
          exact fun x hx => by simpa using HALL.out x hx
        rw [this, Bool.and_true])
      go_wp2_with fail
      go_ret
      exact ⟨by rw [HR.out]; rfl, HBW.out⟩
end Go.Proofs.YtkfajeicbkeigaaDoor
