/- The walk over slices.Compact at fingerprints. -/
import Derived.Test.YtnpgfhoagpeelaaA8
import Derived.Lib.SlicesCompact
import Derived.Deep.DeepCutAuto
namespace Go.Proofs.Ytnpgfhoagpeelaa
open Go.RowKit
open Go.Sort Go.Lib
theorem wpList_store_to {P : Program} {ops : Array Oper} {rest : List Oper} {op : Oper} {a : Act} {w W3 : World} {Q : Exit → Act → World → Prop} (hgd : op.guard = none) (ty : TypeId) (x y : Operand) (ho : op.op = .store ty x y)
    (b o : Nat) (cells : Array Value) (hx : a.eval x = .pointer (some ⟨b, o, none⟩)) (hy : a.eval y = .agg cells)
    (ht : w.there b o cells.size) (hi : (P.info? ty).map (·.size) = some cells.size) (h1 : cells.all (·.oneCell') = true) (hW : w.setCells b o cells.toList = W3)
    (h : wpList P ops Q rest (a.put op.dst undef) W3) : wpList P ops Q (op :: rest) a w := by
  subst hW
  exact wpList_store_mid hgd ty x y ho b o cells hx hy ht hi h1 h
theorem get_arr {s : List Fp} {k : Nat} {f : Fp} (h : s[k]? = some f) : s.toArray[k]! = f := by
  obtain ⟨h1, h2⟩ := List.getElem?_eq_some_iff.1 h
  rw [getElem!_pos s.toArray k (by simpa using h1)]
  simpa using h2
theorem arr_get {s : List Fp} {k : Nat} (hk : k < s.length) : s[k]? = some s.toArray[k]! := by
  rw [List.getElem?_eq_getElem hk]
  exact congrArg some (get_arr (List.getElem?_eq_getElem hk)).symm
/-- what is left of a sorted list: the set -/
theorem compact_set {s m : List Fp} (hp : ∀ x, x ∈ s ↔ x ∈ m) (h : s.Pairwise fun a b => lessF b a = false) : compactUpTo s.toArray s.length = setF m := by
  have hmon : ∀ i j, i ≤ j → j < s.length → lessF s.toArray[j]! s.toArray[i]! = false := fun i j hij hj => by
    rcases Nat.lt_or_ge i j with hlt | hge
    · exact List.pairwise_iff_getElem.1 h i j (by omega) hj hlt |> fun q => by
        rw [get_arr (List.getElem?_eq_getElem hj), get_arr (List.getElem?_eq_getElem (show i < s.length by omega))]
        exact q
    · rw [show i = j by omega, lessF_irrefl]
  refine sort_unique ?_ (setF_sort m) (fun x => ?_)
  · unfold compactUpTo SortF
    rw [List.pairwise_map]
    refine List.Pairwise.imp_of_mem (R := fun i j => i < j) ?_ (List.Pairwise.filter _ List.pairwise_lt_range)
    intro i j _ hj hlt
    obtain ⟨hjr, hjk⟩ := List.mem_filter.1 hj
    have hjl := List.mem_range.1 hjr
    have h1 := hmon i (j - 1) (by omega) (by omega)
    have h2 := hmon (j - 1) j (by omega) hjl
    have hne : s.toArray[j]! ≠ s.toArray[j - 1]! := by
      unfold keeps at hjk
      intro e
      rw [e] at hjk
      simp at hjk
      omega
    have h3 : lessF s.toArray[j - 1]! s.toArray[j]! = true := by
      cases q : lessF s.toArray[j - 1]! s.toArray[j]! with
      | true => rfl
      | false => exact absurd (lessF_total q h2).symm hne
    cases q : lessF s.toArray[i]! s.toArray[j - 1]! with
    | true => exact lessF_trans q h3
    | false => rw [lessF_total q h1]; exact h3
  · rw [setF_mem, ← hp]
    unfold compactUpTo
    rw [List.mem_map]
    refine ⟨fun ⟨j, hj, e⟩ => ?_, fun hx => ?_⟩
    · have hjl := List.mem_range.1 (List.mem_filter.1 hj).1
      rw [← e]
      exact List.mem_of_getElem? (arr_get hjl)
    · obtain ⟨j, hj⟩ := List.getElem?_of_mem hx
      have hjl := (List.getElem?_eq_some_iff.1 hj).1
      have key : ∀ n j, j ≤ n → j < s.length → s.toArray[j]! = x → ∃ i, i ∈ (List.range s.length).filter (keeps s.toArray) ∧ s.toArray[i]! = x := fun n => by
        induction n with
        | zero => exact fun j h1 h2 h3 => ⟨j, List.mem_filter.2 ⟨List.mem_range.2 h2, keeps_lt_one _ j (by omega)⟩, h3⟩
        | succ n ih =>
          intro j h1 h2 h3
          by_cases hk : keeps s.toArray j = true
          · exact ⟨j, List.mem_filter.2 ⟨List.mem_range.2 h2, hk⟩, h3⟩
          · have hj0 : j ≠ 0 := fun e => hk (keeps_lt_one _ j (by omega))
            have he : s.toArray[j]! = s.toArray[j - 1]! := by
              refine Classical.byContradiction fun hn => hk (keeps_pos hn)
            exact ih (j - 1) (by omega) (by omega) (by rw [← he]; exact h3)
      exact key j j (Nat.le_refl _) hjl (get_arr hj)
theorem compInv_take {s d : List Fp} {k : Nat} (h : CompInv s.toArray s.length k d.toArray) : d.take k = compactUpTo s.toArray s.length := by
  have hl := h.len
  have hd := h.size
  have hkd : k ≤ d.length := by have := h.lt; simp at hd; omega
  apply List.ext_getElem?
  intro j
  rw [List.getElem?_take]
  by_cases hj : j < k
  · rw [if_pos hj, h.low j hj]
    exact arr_get (by omega)
  · rw [if_neg hj, List.getElem?_eq_none (by omega)]
set_option maxRecDepth 100000 in
set_option maxHeartbeats 4000000 in
theorem compact61 {w : World} {base g cap : Nat} {s : List Fp} (h : OwnF w base g cap s) (hn : s.length ≤ 1000000) :
    Calls Try.prog 41 #[.slice (some ⟨g, 0, none⟩) s.length cap] w fun e w' => e = .returned (.slice (some ⟨g, 0, none⟩) (compactUpTo s.toArray s.length).length cap) ∧ OwnF w' base g cap (compactUpTo s.toArray s.length) ∧ w.grownBy w' (some g) := by
  have H := Lib.hid h
  have hncap : s.length ≤ cap := own_cap h.1
  have HALL : Hid ((∀ j, j < s.length → keeps s.toArray j = true) → compactUpTo s.toArray s.length = s) := Lib.hid (fun hk => by
    have := compact_all s hk
    exact this)
  clear h
  by_cases h2 : s.length < 2
  · have h2i : (s.length : Int) < 2 := by omega
    have e := HALL.out (fun j hj => keeps_lt_one _ j (by omega))
    rw [e]
    clear e
    go_enter Try.func41, Try.ntmps41
    go_wp2_with fail
    go_ret
    exact ⟨rfl, H.out, ⟨rfl, rfl, rfl, Nat.le_refl _, fun _ _ _ => rfl⟩⟩
  · have h2i : ¬ (s.length : Int) < 2 := by omega
    go_enter Try.func41, Try.ntmps41
    go_wp2_with fail
    go_loopg [3] (s.length - 1) (fun gk s3 wr => ∃ k q : Nat, 1 ≤ k ∧ k ≤ s.length ∧ gk = s.length - k ∧ s3 = .int .i64 k ∧ wr = w.drewN q ∧ ∀ j, j < k → keeps s.toArray j = true)
    case atStart => exact ⟨1, 0, Nat.le_refl _, by omega, rfl, rfl, rfl, keeps_lt_one _⟩
    case round =>
      obtain ⟨k, q, hk1, hk, hgk, rfl, hw, hall⟩ := hrel
      have HK := Lib.hid hgk
      have HW := Lib.hid hw
      have HA := Lib.hid hall
      have HO : Hid (OwnF wr base g cap s) := Lib.hid (by rw [hw]; exact H.out.below (below_drewN (Below.refl _ _) q))
      have HGR : Hid (w.grownBy wr (some g)) := Lib.hid (by rw [hw]; exact ⟨rfl, rfl, rfl, Nat.le_refl _, fun _ _ _ => rfl⟩)
      clear hgk hw hall
      by_cases hlt : k < s.length
      · have hx := arr_get hlt
        have hy := arr_get (show k - 1 < s.length by omega)
        have HB : Hid (s.toArray[k]! = s.toArray[k - 1]! → keeps s.toArray k = false) := Lib.hid (fun e => keeps_neg (by omega) e)
        have HB2 : Hid (s.toArray[k]! ≠ s.toArray[k - 1]! → keeps s.toArray k = true) := Lib.hid (fun e => keeps_pos e)
        generalize s.toArray[k]! = x at *
        generalize s.toArray[k - 1]! = y at *
        have hxf := H.out.2 x (List.mem_of_getElem? hx)
        have hyf := H.out.2 y (List.mem_of_getElem? hy)
        have HR1 : Hid (∀ m, (wr.drewN m).rangeAt g (k * 32) (fpL x)) := Lib.hid (fun m j v hv => HO.out.range hx j v hv)
        have HR2 : Hid (∀ m, (wr.drewN m).rangeAt g ((k - 1) * 32) (fpL y)) := Lib.hid (fun m j v hv => HO.out.range hy j v hv)
        have HIX := Lib.hid (info29f hxf)
        have HIY := Lib.hid (info29f hyf)
        have hq := fp_eq hxf hyf
        have hk0 : (0 : Int) ≤ (k : Int) := by omega
        have hkl : (k : Int) < (s.length : Int) := by omega
        have hkm : (k : Int) - 1 = ((k - 1 : Nat) : Int) := by omega
        have hkm1 : ((k - 1 : Nat) : Int) < (s.length : Int) := by omega
        have hkm0 : (0 : Int) ≤ ((k - 1 : Nat) : Int) := by omega
        clear hx hy hxf hyf
        by_cases hxy : x = y
        · have hkk := HB.out hxy
          rw [decide_eq_true hxy] at hq
          clear hxy
          have HKK := Lib.hid hkk
          clear hkk
          go_wp2_with fail
          refine wp_region_quiet_lit (by kernel_rfl) (by kernel_rfl) ?_
          repeat (first
            | ((with_reducible refine wpQuiet_load_mid (op := ⟨some 19, _, _, _, _, _⟩) ?_ 47 (.tmp 18) rfl g (k * 32) ?_ _ _ ?_ Try.underlying47 rfl HIX.out ?_); rfl; rfl; (rintro w2 ⟨q2, rfl⟩; exact HR1.out _); go_simp)
            | ((with_reducible refine wpQuiet_load_mid (op := ⟨some 24, _, _, _, _, _⟩) ?_ 47 (.tmp 23) rfl g ((k - 1) * 32) ?_ _ _ ?_ Try.underlying47 rfl HIY.out ?_); rfl; rfl; (rintro w2 ⟨q2, rfl⟩; exact HR2.out _); go_simp)
            | go_big_quiet_step (fail))
          refine wpQuiet_nil ?_
          intro nq
          have HST : Hid (CompInv s.toArray (k + 1) k s.toArray) := Lib.hid (CompInv.start HA.out HKK.out)
          obtain ⟨wz, hwz⟩ : ∃ wz, wr.drewN nq = wz := ⟨_, rfl⟩
          have HOZ : Hid (OwnF wz base g cap s) := Lib.hid (by rw [← hwz]; exact HO.out.below (below_drewN (Below.refl _ _) nq))
          have HGZ : Hid (w.grownBy wz (some g)) := Lib.hid (by rw [← hwz]; exact HGR.out.trans ⟨rfl, rfl, rfl, Nat.le_refl _, fun _ _ _ => rfl⟩)
          rw [hwz]
          clear hwz
          go_wp2_with fail
          go_loopg [3, 5] (s.length - (k + 1)) (fun gk s3 s5 wr => ∃ (kk k2 : Nat) (dk : List Fp), s3 = .int .i64 kk ∧ s5 = .int .i64 k2 ∧ 1 ≤ k2 ∧ k + k2 ≤ s.length ∧ gk = s.length - (k + k2) ∧ dk.length = s.length ∧ wr.ownsRow base 47 32 (.slice (some ⟨g, 0, none⟩) s.length cap) s.length (fsL dk) ∧ AllFp dk ∧ w.grownBy wr (some g) ∧ CompInv s.toArray (k + k2) kk dk.toArray)
          case atStart => exact ⟨k, 1, s, rfl, rfl, Nat.le_refl _, by omega, rfl, rfl, HOZ.out.1, HOZ.out.2, HGZ.out, HST.out⟩
          case round =>
            obtain ⟨kk, k2, dk, rfl, rfl, h1, hle, hgk2, hdl, hown, hfp, hgr, hI⟩ := hrel
            have HK2 := Lib.hid hgk2
            have HDL := Lib.hid hdl
            have HOW : Hid (OwnF wr base g cap dk) := Lib.hid ⟨by rw [hdl]; exact hown, hfp⟩
            have HG2 := Lib.hid hgr
            have HI := Lib.hid hI
            have hkk := hI.lt
            clear hgk2 hdl hown hfp hgr hI
            by_cases hlt2 : k + k2 < s.length
            · have hu := arr_get (s := dk) (k := k + k2) (by rw [HDL.out]; exact hlt2)
              have hv := arr_get (s := dk) (k := k + k2 - 1) (by rw [HDL.out]; omega)
              have hu2 := HI.out.high (k + k2) (by omega)
              have hv2 := HI.out.high (k + k2 - 1) (by omega)
              have HB3 : Hid (s.toArray[k + k2]! = s.toArray[k + k2 - 1]! → keeps s.toArray (k + k2) = false) := Lib.hid (fun e => keeps_neg (by omega) e)
              have HB4 : Hid (s.toArray[k + k2]! ≠ s.toArray[k + k2 - 1]! → keeps s.toArray (k + k2) = true) := Lib.hid (fun e => keeps_pos e)
              have HSK : Hid (keeps s.toArray (k + k2) = false → CompInv s.toArray (k + k2 + 1) kk dk.toArray) := Lib.hid (fun h => HI.out.skip h)
              have HKE : Hid (keeps s.toArray (k + k2) = true → CompInv s.toArray (k + k2 + 1) (kk + 1) (dk.set kk s.toArray[k + k2]!).toArray) := Lib.hid (fun h => by
                have := HI.out.keep (by simpa using hlt2) h
                rwa [List.setIfInBounds_toArray] at this)
              rw [hu2] at hu
              rw [hv2] at hv
              clear hu2 hv2
              generalize s.toArray[k + k2]! = u at *
              generalize s.toArray[k + k2 - 1]! = v at *
              have huf := HOW.out.2 u (List.mem_of_getElem? hu)
              have hvf := HOW.out.2 v (List.mem_of_getElem? hv)
              have HUF := Lib.hid huf
              have HR3 : Hid (∀ m, (wr.drewN m).rangeAt g (k * 32 + k2 * 32) (fpL u)) := Lib.hid (fun m j z hz => by
                have := HOW.out.range hu j z hz
                rw [show (k + k2) * 32 = k * 32 + k2 * 32 by omega] at this
                exact this)
              have HR4 : Hid (∀ m, (wr.drewN m).rangeAt g (k * 32 + (k2 - 1) * 32) (fpL v)) := Lib.hid (fun m j z hz => by
                have := HOW.out.range hv j z hz
                rw [show (k + k2 - 1) * 32 = k * 32 + (k2 - 1) * 32 by omega] at this
                exact this)
              have HIU := Lib.hid (info29f huf)
              have HIV := Lib.hid (info29f hvf)
              have hq2 := fp_eq huf hvf
              have h20 : (0 : Int) ≤ (k2 : Int) := by omega
              have h2l : (k2 : Int) < ((s.length - k : Nat) : Int) := by omega
              have h2m : (k2 : Int) - 1 = ((k2 - 1 : Nat) : Int) := by omega
              have h2m1 : ((k2 - 1 : Nat) : Int) < ((s.length - k : Nat) : Int) := by omega
              have h2m0 : (0 : Int) ≤ ((k2 - 1 : Nat) : Int) := by omega
              have hkk0 : (0 : Int) ≤ (kk : Int) := by omega
              have hkkl : (kk : Int) < (s.length : Int) := by omega
              clear hu hv huf hvf
              by_cases huv : u = v
              · have HNX := Lib.hid (HSK.out (HB3.out huv))
                rw [decide_eq_true huv] at hq2
                clear huv
                go_wp2_with fail
                refine wp_region_quiet_lit (by kernel_rfl) (by kernel_rfl) ?_
                repeat (first
                  | ((with_reducible refine wpQuiet_load_mid (op := ⟨some 38, _, _, _, _, _⟩) ?_ 47 (.tmp 37) rfl g (k * 32 + k2 * 32) ?_ _ _ ?_ Try.underlying47 rfl HIU.out ?_); rfl; rfl; (rintro w2 ⟨q2, rfl⟩; exact HR3.out _); go_simp)
                  | ((with_reducible refine wpQuiet_load_mid (op := ⟨some 43, _, _, _, _, _⟩) ?_ 47 (.tmp 42) rfl g (k * 32 + (k2 - 1) * 32) ?_ _ _ ?_ Try.underlying47 rfl HIV.out ?_); rfl; rfl; (rintro w2 ⟨q2, rfl⟩; exact HR4.out _); go_simp)
                  | go_big_quiet_step (fail))
                refine wpQuiet_nil ?_
                intro nq
                go_wp2_with fail
                go_roundg (s.length - (k + (k2 + 1)))
                case measure => rw [HK2.out]; omega
                case rel => exact ⟨kk, k2 + 1, dk, rfl, by go_num, by omega, by omega, rfl, HDL.out, by rw [← HDL.out]; exact own_below HOW.out.1 (below_drewN (Below.refl _ _) nq), HOW.out.2, HG2.out.trans ⟨rfl, rfl, rfl, Nat.le_refl _, fun _ _ _ => rfl⟩, HNX.out⟩
              · have HNX := Lib.hid (HKE.out (HB4.out huv))
                rw [decide_eq_false huv] at hq2
                clear huv
                go_wp2_with fail
                refine wp_region_quiet_lit (by kernel_rfl) (by kernel_rfl) ?_
                repeat (first
                  | ((with_reducible refine wpQuiet_load_mid (op := ⟨some 38, _, _, _, _, _⟩) ?_ 47 (.tmp 37) rfl g (k * 32 + k2 * 32) ?_ _ _ ?_ Try.underlying47 rfl HIU.out ?_); rfl; rfl; (rintro w2 ⟨q2, rfl⟩; exact HR3.out _); go_simp)
                  | ((with_reducible refine wpQuiet_load_mid (op := ⟨some 43, _, _, _, _, _⟩) ?_ 47 (.tmp 42) rfl g (k * 32 + (k2 - 1) * 32) ?_ _ _ ?_ Try.underlying47 rfl HIV.out ?_); rfl; rfl; (rintro w2 ⟨q2, rfl⟩; exact HR4.out _); go_simp)
                  | go_big_quiet_step (fail))
                refine wpQuiet_nil ?_
                intro nq
                have HRU : Hid ((wr.drewN nq).rangeAt g (k * 32 + k2 * 32) (fpL u)) := Lib.hid (HR3.out nq)
                have HTH : Hid ((wr.drewN nq).there g (kk * 32) (fpL u).toArray.size) := Lib.hid (by
                  have := own_there (own_below HOW.out.1 (below_drewN (Below.refl _ _) nq)) (o := kk * 32) (m := 32) (by rw [HDL.out]; omega)
                  rw [List.size_toArray, fpL_length HUF.out]
                  exact this)
                have HSZ : Hid ((Try.prog.info? 47).map (·.size) = some (fpL u).toArray.size) := Lib.hid (by rw [List.size_toArray]; exact HIU.out)
                have HON : Hid ((fpL u).toArray.all (·.oneCell') = true) := Lib.hid (all_oneCell_toArray fpL_one)
                obtain ⟨W3, hW3⟩ : ∃ W3, (wr.drewN nq).setCells g (kk * 32) (fpL u).toArray.toList = W3 := ⟨_, rfl⟩
                have HO3 : Hid (OwnF W3 base g cap (dk.set kk u)) := Lib.hid (by
                  rw [← hW3, List.toList_toArray]
                  exact OwnF.set (w := wr.drewN nq) (HOW.out.below (below_drewN (Below.refl _ _) nq)) (by rw [HDL.out]; omega) HUF.out)
                have HG3 : Hid (w.grownBy W3 (some g)) := Lib.hid (by
                  rw [← hW3]
                  exact grown_setCells w g _ _ (HG2.out.trans ⟨rfl, rfl, rfl, Nat.le_refl _, fun _ _ _ => rfl⟩))
                have HW3 := Lib.hid hW3
                clear hW3
                go_wp2_with (first
                  | ((with_reducible refine wpList_load_mid (op := ⟨some 50, _, _, _, _, _⟩) rfl 47 (.tmp 49) rfl g (k * 32 + k2 * 32) ?_ (fpL u) _ HRU.out Try.underlying47 rfl HIU.out ?_); rfl)
                  | ((with_reducible refine wpList_store_to (op := ⟨none, .store _ _ _, _, _, _, _⟩) rfl 47 (.tmp 51) (.tmp 50) rfl g (kk * 32) (fpL u).toArray ?_ ?_ HTH.out HSZ.out HON.out HW3.out ?_); rfl; rfl))
                go_wp2_with fail
                go_roundg (s.length - (k + (k2 + 1)))
                case measure => rw [HK2.out]; omega
                case rel => exact ⟨kk + 1, k2 + 1, dk.set kk u, by go_num, by go_num, by omega, by omega, rfl, by rw [List.length_set]; exact HDL.out, by have := HO3.out.1; rwa [List.length_set, HDL.out] at this, HO3.out.2, HG3.out, HNX.out⟩
            · have hend : k + k2 = s.length := by omega
              have HE : Hid (dk.take kk = compactUpTo s.toArray s.length) := Lib.hid (compInv_take (by rw [← hend]; exact HI.out))
              have HEL : Hid ((compactUpTo s.toArray s.length).length = kk) := Lib.hid (by rw [← hend]; exact HI.out.len)
              have hown := HOW.out.1
              rw [HDL.out] at hown
              have hcl := run_clear_own (n := s.length) (m := s.length - kk) (o := kk * 32) (c := cap - kk) hown (by omega) (by omega)
              obtain ⟨W4, hW4⟩ : ∃ W4, wr.setCells g (kk * 32) (Builtin.zeroCells (Array.replicate 32 (.int .u8 0)) (s.length - kk)).toList = W4 := ⟨_, rfl⟩
              have HO4 : Hid (W4.ownsRow base 47 32 (.slice (some ⟨g, 0, none⟩) kk cap) kk (fsL (dk.take kk))) := Lib.hid (by
                have hz : (Builtin.zeroCells (Array.replicate 32 (Value.int .u8 0)) (s.length - kk)).toList.length = (s.length - kk) * 32 := by simp [Builtin.zeroCells]
                have q1 := own_setCells (o := kk * 32) (L := (Builtin.zeroCells (Array.replicate 32 (Value.int .u8 0)) (s.length - kk)).toList) hown (by rw [hz]; omega)
                have q2 := own_cut q1 (k := kk) (by omega)
                rw [hW4, List.append_assoc, List.take_append_of_le_length (by rw [List.length_take, fsL_len HOW.out.2, HDL.out]; omega), List.take_take, Nat.min_self, fsL_take HOW.out.2] at q2
                exact q2)
              have HG4 : Hid (w.grownBy W4 (some g)) := Lib.hid (by rw [← hW4]; exact grown_setCells w g _ _ HG2.out)
              rw [hW4] at hcl
              have hkk0 : (0 : Int) ≤ (kk : Int) := by omega
              have hkkl : (kk : Int) ≤ (s.length : Int) := by omega
              have hkkc : (kk : Int) ≤ (cap : Int) := by omega
              clear hown hW4
              go_wp2_with fail
              go_ret
              rw [HEL.out, ← HE.out]
              refine ⟨rfl, ⟨?_, fun f hf => HOW.out.2 f (List.mem_of_mem_take hf)⟩, HG4.out⟩
              have hl : (dk.take kk).length = kk := by rw [HE.out, HEL.out]
              rw [hl]
              exact HO4.out
        · rw [decide_eq_false hxy] at hq
          have HKK := Lib.hid (HB2.out hxy)
          clear hxy
          go_wp2_with fail
          refine wp_region_quiet_lit (by kernel_rfl) (by kernel_rfl) ?_
          repeat (first
            | ((with_reducible refine wpQuiet_load_mid (op := ⟨some 19, _, _, _, _, _⟩) ?_ 47 (.tmp 18) rfl g (k * 32) ?_ _ _ ?_ Try.underlying47 rfl HIX.out ?_); rfl; rfl; (rintro w2 ⟨q2, rfl⟩; exact HR1.out _); go_simp)
            | ((with_reducible refine wpQuiet_load_mid (op := ⟨some 24, _, _, _, _, _⟩) ?_ 47 (.tmp 23) rfl g ((k - 1) * 32) ?_ _ _ ?_ Try.underlying47 rfl HIY.out ?_); rfl; rfl; (rintro w2 ⟨q2, rfl⟩; exact HR2.out _); go_simp)
            | go_big_quiet_step (fail))
          refine wpQuiet_nil ?_
          intro nq
          go_wp2_with fail
          go_roundg (s.length - (k + 1))
          case measure => rw [HK.out]; omega
          case rel => exact ⟨k + 1, q + nq, by omega, by omega, rfl, by go_num, by rw [HW.out, World.drewN_drewN], fun j hj => by
            by_cases e : j = k
            · rw [e]; exact HKK.out
            · exact HA.out j (by omega)⟩
      · obtain rfl : k = s.length := by omega
        go_wp2_with fail
        go_ret
        rw [HALL.out HA.out]
        exact ⟨rfl, HO.out, HGR.out⟩
end Go.Proofs.Ytnpgfhoagpeelaa
