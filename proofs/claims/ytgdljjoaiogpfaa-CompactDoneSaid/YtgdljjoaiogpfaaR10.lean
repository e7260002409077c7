/- The walk over the reference's Successor. -/
import Derived.Test.YtgdljjoaiogpfaaC17
import Derived.Test.YtgdljjoaiogpfaaR5
namespace Go.Proofs.Ytgdljjoaiogpfaa
open Go.RowKit Go.Maps
/-- the slots that live of all boxes of an ID -/
def idP (named : List Plc) (hs : List Hd) (g : Int) : List Plc := allP named true (hs.filter fun x => decide (x.id = g))
theorem idP_snoc (named : List Plc) (hs : List Hd) (x : Hd) (g : Int) : idP named (hs ++ [x]) g = idP named hs g ++ (if x.id = g then part named x true else []) := by
  unfold idP
  rw [List.filter_append]
  by_cases h : x.id = g
  · rw [if_pos h]; simp [allP, h]
  · rw [if_neg h]; simp [allP, h]
theorem idP_len (named : List Plc) (hs : List Hd) (g : Int) (h : ∀ x ∈ hs, x.n ≤ 1000) : (idP named hs g).length ≤ 1000 * hs.length := by
  refine Nat.le_trans (allP_len named true _ (fun x hx => h x (List.mem_filter.1 hx).1)) (Nat.mul_le_mul_left _ (List.length_filter_le _ _))
theorem mem_take_step {gs : List Int} {q : Nat} {y g : Int} (h : gs[q]? = some y) : decide (g ∈ gs.take (q + 1)) = (decide (g ∈ gs.take q) || (y == g)) := by
  rw [List.take_add_one, h]
  by_cases e : y = g
  · subst e; simp
  · have e' : ¬ g = y := fun h => e h.symm
    simp [e, e']
theorem succTo_le {f : Int → List Plc} {gs : List Int} {b : Nat} (hf : ∀ x, (f x).length ≤ b) : ∀ k, (succTo f gs k).length ≤ b * k
  | 0 => by simp [succTo]
  | k + 1 => by
    have ih := succTo_le (gs := gs) hf k
    simp only [succTo, List.length_append]
    have : (match gs[k]? with | some g => if g ∈ gs.take k then [] else f g | none => []).length ≤ b := by
      split
      · split
        · simp
        · exact hf _
      · simp
    rw [Nat.mul_succ]
    exact Nat.add_le_add ih this
set_option maxRecDepth 100000 in
set_option maxHeartbeats 8000000 in
theorem rsucc13 {w : World} {A : Option Addr} {n c : Nat} {hs : List Hd} {B : Option Addr} {m d : Nat} {named : List Plc} (h : InOk w A n hs B m named) {GA : Option Addr} {gn gc : Nat} {gs : List Int} (hgs : Ids w GA gn gs) (hgn : gn ≤ 1000) :
    Calls Try.prog 13 #[.slice A n c, .slice B m d, .slice GA gn gc] w fun e w' => ∃ v, e = .returned v ∧ Below w.heap.size w w' ∧ w'.ownsRow w.heap.size 39 2 v (succTo (idP named hs) gs gn).length (rowP (succTo (idP named hs) gs gn)) := by
  have H := Lib.hid h.hd
  have HLM := Lib.hid h.lim
  have HGS := Lib.hid hgs
  have HN : Hid (n ≤ 1000) := by have := h.lim.1; rw [h.hd.len] at this; exact this
  have HGN := Lib.hid hgn
  have HCALL : Hid (∀ V, Below w.heap.size w V → ∀ x : Hd, x.n ≤ 1000 → Calls Try.prog 16 #[.agg #[.int .u32 x.id, .slice x.A x.n x.c], .slice B m d, .bool true] V fun e w' => ∃ v, e = .returned v ∧ Below V.heap.size V w' ∧ w'.ownsRow V.heap.size 39 2 v (part named x true).length (rowP (part named x true))) := Lib.hid (fun V hV x hx => part16 (h.pl.below hV) h.mm x hx true)
  have HFL : Hid (∀ b, (idP named hs b).length ≤ 1000000) := Lib.hid (fun b => by
    have q := idP_len named hs b h.lim.2
    have := h.lim.1
    omega)
  clear h hgs
  obtain ⟨i0, hi, hz0, hz1, hz2⟩ := info_parts info39
  have I0 := Lib.hid hi
  have Z0 := Lib.hid hz0
  have S0 := Lib.hid hz1
  have Y0 := Lib.hid hz2
  clear hi hz0 hz1 hz2
  have HSL : Hid (∀ k, (succTo (idP named hs) gs k).length ≤ 1000000 * k) := Lib.hid (succTo_le HFL.out)
  go_enter Try.func13, Try.ntmps13
  go_wp2_with fail
  go_loopg [7, 8] gn (fun gk v i wr => ∃ k : Nat, k ≤ gn ∧ gk = gn - k ∧ i = .int .i64 k ∧ Below w.heap.size w wr ∧ wr.ownsRow w.heap.size 39 2 v (succTo (idP named hs) gs k).length (rowP (succTo (idP named hs) gs k)))
  case atStart => exact ⟨0, Nat.zero_le _, rfl, rfl, Below.refl _ _, World.ownsRow_nil _ _ _ _⟩
  case round =>
    obtain ⟨wo, rfl⟩ : ∃ wo, wo = wr := ⟨_, rfl⟩
    obtain ⟨k, hk, hgk, rfl, hb, hr⟩ := hrel
    have HK := Lib.hid hgk
    have HB := Lib.hid hb
    have HR := Lib.hid hr
    have HGN' := HGN.out
    clear hgk hb hr
    by_cases hlt : k < gn
    · obtain ⟨g, hg⟩ : ∃ g, gs[k]? = some g := ⟨gs[k]'(by rw [HGS.out.len]; exact hlt), by simp⟩
      have HST : Hid (succTo (idP named hs) gs (k + 1) = succTo (idP named hs) gs k ++ (if g ∈ gs.take k then [] else idP named hs g)) := Lib.hid (succTo_step hg)
      have HSK := Lib.hid (HSL.out k)
      have HGG := Lib.hid hg
      obtain ⟨S, hS⟩ : ∃ S, succTo (idP named hs) gs k = S := ⟨_, rfl⟩
      rw [hS] at HR HST HSK
      obtain ⟨gb, go, hGA, hgc⟩ := HGS.out.get hg
      subst hGA
      have HGC : Hid (∀ V, Below w.heap.size w V → ∀ (q : Nat) (y : Int), gs[q]? = some y → V.cell? ⟨gb, go + q, none⟩ = some (.int .u32 y)) := Lib.hid (fun V hV q y hy => by
        obtain ⟨b', o', e', d⟩ := (HGS.out.below hV).get hy
        cases e'
        exact d)
      have hk0 : (0 : Int) ≤ (k : Int) := by omega
      have hk1 : (k : Int) < (gn : Int) := by omega
      clear hg hS hgc
      obtain ⟨AA, ac, hv⟩ := own_slice HR.out
      subst hv
      go_wp2_with fail
      go_loopg [9, 10] k (fun gk2 t j wq => ∃ q : Nat, q ≤ k ∧ gk2 = k - q ∧ j = .int .i64 q ∧ t = .bool (decide (g ∈ gs.take q)) ∧ ∃ nd, wq = wo.drewN nd)
      case atStart => exact ⟨0, Nat.zero_le _, rfl, rfl, by simp, 0, rfl⟩
      case round =>
        obtain ⟨q, hq, hgk2, rfl, rfl, nd, rfl⟩ := hrel
        have HK2 := Lib.hid hgk2
        clear hgk2
        have HBQ : Hid (Below w.heap.size w (wo.drewN nd)) := Lib.hid (below_drewN HB.out nd)
        by_cases hlt2 : q < k
        · obtain ⟨y, hy⟩ : ∃ y, gs[q]? = some y := ⟨gs[q]'(by rw [HGS.out.len]; omega), by simp⟩
          have HMT := Lib.hid (mem_take_step (g := g) hy)
          have d1 := HGC.out _ HB.out q y hy
          have d2 := HGC.out _ HB.out k g HGG.out
          have hq0 : (0 : Int) ≤ (q : Int) := by omega
          have hq1 : (q : Int) < (gn : Int) := by omega
          have hq2 : (q : Int) < (k : Int) := by omega
          clear hy
          obtain ⟨tw, htw⟩ : ∃ tw, decide (g ∈ gs.take q) = tw := ⟨_, rfl⟩
          rw [htw] at HMT ⊢
          clear htw
          cases tw with
          | true =>
            go_wp2
            go_quiet (fail)
            go_wp2
            go_roundg (k - (q + 1))
            case measure => rw [HK2.out]; omega
            case rel => exact ⟨q + 1, by omega, rfl, by go_num, by rw [HMT.out]; rfl, _, rfl⟩
          | false =>
            go_wp2
            go_quiet (fail)
            go_wp2
            go_roundg (k - (q + 1))
            case measure => rw [HK2.out]; omega
            case rel => exact ⟨q + 1, by omega, rfl, by go_num, by rw [HMT.out]; simp, _, rfl⟩
        · have hqk : q = k := by omega
          subst hqk
          have hnk : ¬ (q : Int) < (q : Int) := by omega
          obtain ⟨tw, htw⟩ : ∃ tw, decide (g ∈ gs.take q) = tw := ⟨_, rfl⟩
          have HTW := Lib.hid htw
          rw [htw]
          clear htw hlt2
          go_wp2_with fail
          go_loopg [7, 11] n (fun gk3 v j wq => ∃ p : Nat, p ≤ n ∧ gk3 = n - p ∧ j = .int .i64 p ∧ Below w.heap.size w wq ∧ wq.ownsRow w.heap.size 39 2 v (S ++ if tw = true then [] else idP named (hs.take p) g).length (rowP (S ++ if tw = true then [] else idP named (hs.take p) g)))
          case atStart =>
            refine ⟨0, Nat.zero_le _, rfl, rfl, HBQ.out, ?_⟩
            have e : (S ++ if tw = true then [] else idP named (hs.take 0) g) = S := by cases tw <;> simp [idP, allP]
            rw [e]
            exact HR.out
          case round =>
            obtain ⟨p, hp, hgk3, rfl, hb3, hr3⟩ := hrel
            have HGK3 := Lib.hid hgk3
            have HB3 := Lib.hid hb3
            have HN' := HN.out
            have HR3 := Lib.hid hr3
            clear hgk3 hb3 hr3
            cases tw with
            | true =>
              have HTT : Hid (S ++ [] = S) := Lib.hid (by simp)
              rw [if_pos rfl] at HR3
              rw [HTT.out] at HR3
              obtain ⟨A3, ac3, hv3⟩ := own_slice HR3.out
              subst hv3
              have HSS : Hid (succTo (idP named hs) gs (q + 1) = S) := Lib.hid (by
                rw [HST.out, if_pos (of_decide_eq_true HTW.out)]
                simp)
              by_cases hlt3 : p < n
              · have hp1 : (p : Int) < (n : Int) := by omega
                go_wp2
                go_roundg (gn - (q + 1))
                case measure => rw [HK.out]; omega
                case rel => exact ⟨q + 1, by omega, rfl, by go_num, HB3.out, by rw [HSS.out]; exact HR3.out⟩
              · have hp1 : ¬ (p : Int) < (n : Int) := by omega
                go_wp2
                go_roundg (gn - (q + 1))
                case measure => rw [HK.out]; omega
                case rel => exact ⟨q + 1, by omega, rfl, by go_num, HB3.out, by rw [HSS.out]; exact HR3.out⟩
            | false =>
              rw [if_neg (by decide)] at HR3
              obtain ⟨T, hT⟩ : ∃ T, S ++ idP named (hs.take p) g = T := ⟨_, rfl⟩
              have HT0 := Lib.hid hT
              rw [hT] at HR3
              obtain ⟨tn, htn⟩ : ∃ tn, T.length = tn := ⟨_, rfl⟩
              have HTN := Lib.hid htn
              rw [htn] at HR3
              clear hT htn
              obtain ⟨A3, ac3, hv3⟩ := own_slice HR3.out
              subst hv3
              by_cases hlt3 : p < n
              · obtain ⟨x, hx⟩ : ∃ x, hs[p]? = some x := ⟨hs[p]'(by rw [H.out.len]; exact hlt3), by simp⟩
                obtain ⟨b, o, rfl, c1, c2⟩ := (H.out.below HB3.out).get hx
                have hp0 : (0 : Int) ≤ (p : Int) := by omega
                have hp1 : (p : Int) < (n : Int) := by omega
                have hxl : x.n ≤ 1000 := HLM.out.2 x (List.mem_of_getElem? hx)
                have HTK : Hid (idP named (hs.take (p + 1)) g = idP named (hs.take p) g ++ (if x.id = g then part named x true else [])) := Lib.hid (by rw [List.take_add_one, hx]; exact idP_snoc _ _ _ _)
                have HL2 : Hid ((part named x true).length ≤ 1000) := Lib.hid (Nat.le_trans (partTo_len named x true x.n) hxl)
                have HL1 : Hid (tn ≤ 2000000000) := Lib.hid (by
                  rw [← HTN.out, ← HT0.out]
                  have q1 := HSK.out
                  have q2 := idP_len named (hs.take p) g (fun y hy => HLM.out.2 y (List.mem_of_mem_take hy))
                  have q3 : (hs.take p).length ≤ 1000 := by simp; omega
                  simp only [List.length_append]
                  omega)
                have d2 := HGC.out _ HB3.out q g HGG.out
                have HXL := Lib.hid hxl
                have hqq : (q : Int) < (gn : Int) := hk1
                clear hx hxl
                by_cases hid : x.id = g
                · rw [if_pos hid] at HTK
                  have hbe : (x.id == g) = true := by simpa using hid
                  have HXG := Lib.hid hid
                  have HCN : Hid (∀ nq, Below w.heap.size w (wr.drewN nq)) := Lib.hid (fun nq => below_drewN HB3.out nq)
                  have HCL2 : Hid (∀ nq, Calls Try.prog 16 #[.agg #[.int .u32 x.id, .slice x.A x.n x.c], .slice B m d, .bool true] (wr.drewN nq) fun e w' => ∃ v, e = .returned v ∧ Below (wr.drewN nq).heap.size (wr.drewN nq) w' ∧ w'.ownsRow (wr.drewN nq).heap.size 39 2 v (part named x true).length (rowP (part named x true))) := Lib.hid (fun nq => HCALL.out _ (HCN.out nq) x HXL.out)
                  clear hid HCALL
                  go_wp2
                  go_quiet (fail)
                  go_wp2_with fail
                  refine Calls.mono (HCL2.out _) ?_
                  rintro e w1 ⟨v2, rfl, hb1, hr2⟩
                  obtain ⟨A2, ac2, hv2, hz⟩ := own_slice2 hr2
                  subst hv2
                  have HZ := Lib.hid hz
                  have HP2 := Lib.hid (Pls.own hr2 rfl)
                  have HBW : Hid (Below w.heap.size w w1) := Lib.hid ((HCN.out _).trans (hb1.mono (HCN.out _).size))
                  have HR1 := Lib.hid (World.ownsRow.kept (show (wr.drewN nq).ownsRow w.heap.size 39 2 (.slice A3 tn ac3) tn (rowP T) from HR3.out) (grown_of_below hb1) (by rcases hoo : Value.ownBlock (.slice A3 tn ac3) with _ | g <;> simp))
                  clear hz hr2 hb1 c1 c2 d2
                  go_wp2_with (first
                    | (at_builtin; refine wpList_append_any rfl (.tmp 55) (.tmp 61) _ rfl w.heap.size 39 i0 _ 2 16 Try.underlying23 I0.out Z0.out S0.out Y0.out rfl (by decide) _ _ _ rfl HR1.out _ _ _ (rowP (part named x true)) rfl (rowP_len _) HZ.out HP2.out.news (rowP_one _) (by have := HL1.out; have := HL2.out; simp only [maxLen]; omega) (by have := HL1.out; have := HL2.out; omega) HBW.out.size ?_))
                  intro v' w2 hown' hgrow
                  obtain ⟨A4, ac4, hv4⟩ := own_slice hown'
                  subst hv4
                  go_wp2
                  go_roundg (n - (p + 1))
                  case measure => rw [HGK3.out]; omega
                  case rel =>
                    refine ⟨p + 1, by omega, rfl, by go_num, HBW.out.grown hgrow HBW.out.size (fun j e => (HR1.out.lt j e).1), ?_⟩
                    rw [if_neg (by decide), HTK.out, ← List.append_assoc, HT0.out, rowP_append, List.length_append, HTN.out]
                    exact hown'
                · rw [if_neg hid] at HTK
                  have hbe : (x.id == g) = false := by simpa using hid
                  clear hid
                  go_wp2
                  go_quiet (fail)
                  go_wp2
                  go_roundg (n - (p + 1))
                  case measure => rw [HGK3.out]; omega
                  case rel => exact ⟨p + 1, by omega, rfl, by go_num, below_drewN HB3.out _, by rw [if_neg (by decide), HTK.out, List.append_nil, HT0.out, HTN.out]; exact HR3.out⟩
              · have HSS : Hid (succTo (idP named hs) gs (q + 1) = S ++ idP named (hs.take p) g) := Lib.hid (by
                  rw [HST.out, if_neg (of_decide_eq_false HTW.out), List.take_of_length_le (by rw [H.out.len]; omega)])
                have hpn : ¬ (p : Int) < (n : Int) := by omega
                go_wp2
                go_roundg (gn - (q + 1))
                case measure => rw [HK.out]; omega
                case rel => exact ⟨q + 1, by omega, rfl, by go_num, HB3.out, by rw [HSS.out, HT0.out, HTN.out]; exact HR3.out⟩
    · have HT : Hid (k = gn) := Lib.hid (by omega)
      go_wp2
      go_ret
      exact ⟨_, rfl, HB.out, by rw [← HT.out]; exact HR.out⟩
end Go.Proofs.Ytgdljjoaiogpfaa
