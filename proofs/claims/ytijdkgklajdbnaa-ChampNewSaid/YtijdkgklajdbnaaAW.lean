/- The walk over Choose. -/
import Derived.Test.YtijdkgklajdbnaaAV
namespace Go.Proofs.Ytijdkgklajdbnaa
open Go.RowKit
open Go.Maps
set_option maxRecDepth 100000 in
set_option maxHeartbeats 4000000 in
theorem choose18 {A : Option Addr} {n c : Nat} {look : Value} {w : World} {P : List (List Id)} {of : List Id} {Q : World → Prop} {most : Int} (h : Asked A n c look w P Q) (hq : BelowOk Q) (hP : AllOk P) (hn : P.length ≤ 1000) (hof : ∀ x, (∃ l ∈ P, x ∈ l) → x ∈ of) :
    Calls Try.prog 18 #[.slice A n c, look, .int .i64 most] w fun e w' => ∃ C q, e = .returned (.slice C (chooseG (progB P of) most 65 []).length q) ∧ Ids w' C (chooseG (progB P of) most 65 []) ∧ (chooseG (progB P of) most 65 []).length ≤ 64 ∧ (chooseG (progB P of) most 65 []).length ≤ q ∧ Q w' := by
  have H := Lib.hid h
  have HQ := Lib.hid hq
  have HR0 : Hid (chooseG (progB P of) most 65 [] = chooseG (progB P of) most 65 []) := Lib.hid (by trivial)
  have HRB : Hid (∀ out, bestN (cntF (leftP P out).flatten) of = progB P of out) := Lib.hid (fun out => rfl)
  have HP2 : Hid (∀ out, AllOk (leftP P out)) := Lib.hid (fun out l hl => hP l (List.mem_filter.1 hl).1)
  have HOF : Hid (∀ out x, 0 < cntF (leftP P out).flatten x → x ∈ of) := Lib.hid (fun out x hx => by
    unfold cntF at hx
    rw [List.count_pos_iff, List.mem_flatten] at hx
    obtain ⟨l, hl, hx⟩ := hx
    exact hof x ⟨l, (List.mem_filter.1 hl).1, hx⟩)
  have HLL : Hid (∀ out, (leftP P out).length ≤ 1000) := Lib.hid (fun out => Nat.le_trans (List.length_filter_le ..) hn)
  have HL0 : Hid (leftP P [] = P) := Lib.hid (leftP_nil P)
  have HLS : Hid (∀ out x, leftP P (out ++ [x]) = (leftP P out).filter (noB x)) := Lib.hid (leftP_snoc P)
  generalize progB P of = bf at *
  obtain ⟨R, hR⟩ : ∃ R, chooseG bf most 65 [] = R := ⟨_, rfl⟩
  have HRR := Lib.hid hR
  rw [hR]
  obtain ⟨i0, hi, hz0, hz1, hz2⟩ := info_parts info24
  have I0 := Lib.hid hi
  have Z0 := Lib.hid hz0
  have S0 := Lib.hid hz1
  have Y0 := Lib.hid hz2
  clear h hq hP hof hR HR0 hi hz0 hz1 hz2
  go_enter Try.func18, Try.ntmps18
  go_wp2_with fail
  refine Calls.mono H.out ?_
  rintro e w1 ⟨VB, vd, vs, rfl, hids, hrow, hin, h12, hq1⟩
  have HIDS := Lib.hid hids
  have HROW := Lib.hid hrow
  have HIN := Lib.hid hin
  have H12 := Lib.hid h12
  have HQ1 := Lib.hid hq1
  clear hids hrow hin h12 hq1
  go_wp2_with fail
  go_loopg [7, 8] 65 (fun gk v vo wr => ∃ (n : Nat) (out : List Id) (L : List Lst) (LA : Option Addr) (Lc b0 : Nat), gk = n ∧ 65 ≤ n + out.length ∧ out.length ≤ 64 ∧ chooseG bf most n out = R ∧ v = .slice LA L.length Lc ∧ ids L = leftP P out ∧ wr.ownsRow b0 30 1 (.slice LA L.length Lc) L.length (lsL L) ∧ Inner w1 L ∧ (∀ x ∈ L, x.l.length ≤ 12) ∧ wr.ownsRow w1.heap.size 24 1 vo out.length (idL out) ∧ Below w1.heap.size w1 wr)
  case atStart => exact ⟨65, [], vs, VB, vd, _, rfl, by simp, by simp, HRR.out, rfl, by rw [HL0.out]; exact HIDS.out, HROW.out, HIN.out, H12.out, World.ownsRow_nil _ _ _ _, Below.refl _ _⟩
  case round =>
    obtain ⟨n, out, L, LA, Lc, b0, hgk, h65, h64, hch, rfl, hids, hrow, hin, h12, hown, hb⟩ := hrel
    obtain ⟨VA, VC, rfl⟩ := own_slice hown
    have HK := Lib.hid hgk
    have HO := Lib.hid hown
    have HB := Lib.hid hb
    have HCH := Lib.hid hch
    have HR2 := Lib.hid hrow
    have HN2 := Lib.hid hin
    have HL2 := Lib.hid h12
    have HI2 := Lib.hid hids
    have hll : L.length ≤ 1000 := by rw [← ids_len, hids]; exact HLL.out out
    have HC28 := Lib.hid (counts28 (c := Lc) (w := wr) ⟨row_own hrow, hin.below hb⟩ (by omega) (fun x hx => by have := h12 x hx; omega) (fun x hx y hy => HP2.out out x.l (by rw [← hids]; exact List.mem_map.2 ⟨x, hx, rfl⟩) y hy))
    rw [hids] at HC28
    have hfl : ∀ x, cntF (leftP P out).flatten x ≤ 1000000 := fun x => by
      have h1 := cntF_le (leftP P out).flatten x
      have h2 := flat_len2 (leftP P out) (fun l hl => by
        rw [← hids] at hl
        obtain ⟨y, hy, rfl⟩ := List.mem_map.1 hl
        have := h12 y hy
        omega)
      have h3 := HLL.out out
      omega
    have HFL := Lib.hid hfl
    clear hgk hown hb hch hrow hin h12 hids hfl
    obtain ⟨n, rfl⟩ : ∃ m, n = m + 1 := ⟨n - 1, by omega⟩
    by_cases hlt : (out.length : Int) < most ∧ (out.length : Int) < 64
    · have hlt1 := hlt.1
      have hlt2 := hlt.2
      have hmn : (out.length : Int) < min most 64 := by omega
      have HC34 := Lib.hid (fun (W : World) (b : Nat) (hc : Cnts W b (cntF (leftP P out).flatten)) => first34 hc (HOF.out out) HFL.out)
      rw [HRB.out out] at HC34
      cases hb : decide (0 < (bf out).2)
      case true =>
        have hb' := of_decide_eq_true hb
        rw [hb] at HC34
        have HE : Hid (chooseG bf most n (out ++ [(bf out).1]) = R) := Lib.hid (by rw [← HCH.out, choose_yes hlt hb'])
        generalize (bf out).1 = x at *
        clear hb hb' hlt
        go_wp2_with fail
        refine Calls.mono HC28.out ?_
        rintro e w2 ⟨b, rfl, hcn, _, hb2⟩
        have HC := Lib.hid (HC34.out w2 b hcn)
        clear hcn
        go_wp2_with fail
        refine Calls.mono HC.out ?_
        rintro e w3 ⟨rfl, hb3⟩
        have hb4 := hb2.trans (hb3.mono hb2.size)
        have HO3 := Lib.hid (own_below HO.out hb4)
        have HR3 := Lib.hid (own_below HR2.out hb4)
        have HB3 : Hid (Below w1.heap.size w1 w3) := Lib.hid (HB.out.trans (hb4.mono HB.out.size))
        clear hb2 hb3 hb4
        go_wp2_with (first
          | (at_builtin; refine wpList_append_own_at _ rfl (.tmp 27) (.tmp 29) _ rfl w1.heap.size 24 i0 _ 1 4 Try.underlying30 I0.out Z0.out S0.out Y0.out rfl (by decide) _ out.length (idL out) rfl (HO3.out.alloc _) _ 1 1 [.int .u32 x] rfl rfl (cell_one_new _ _ _) (by simp [Value.oneCell']) (by simp only [maxLen]; omega) (by omega) (by have := HB3.out.size; simp at this ⊢; omega) ?_))
        intro v8 w8 hown8 hg8 _ _
        obtain ⟨V8, C8, rfl⟩ := own_slice hown8
        have HO8 : Hid (w8.ownsRow w1.heap.size 24 1 (.slice V8 (out.length + 1) C8) (out.length + 1) (idL (out ++ [x]))) := Lib.hid (by rw [idL_snoc]; exact hown8)
        have HR8 := Lib.hid ((HR3.out.alloc _).kept hg8 (own_ne HR3.out HO3.out (by decide)))
        have HB8 : Hid (Below w1.heap.size w1 w8) := Lib.hid ((HB3.out.alloc HB3.out.size _).grown hg8 (by have := HB3.out.size; simp at this ⊢; omega) (fun j e => (HO3.out.lt j e).1))
        have HW := Lib.hid (without32 (c := Lc) (x := x) (w := w8) ⟨row_own HR8.out, HN2.out.below HB8.out⟩ (aok_own HR8.out) (by omega) (fun x hx => by have := HL2.out x hx; omega))
        clear hown8 hg8
        go_wp2_with fail
        refine Calls.mono HW.out ?_
        rintro e w9 ⟨WB, wd, rfl, ho9, hb9⟩
        have HO9 := Lib.hid ho9
        have HX9 := Lib.hid (own_below HO8.out hb9)
        have HB9 : Hid (Below w1.heap.size w1 w9) := Lib.hid (HB8.out.trans (hb9.mono HB8.out.size))
        clear ho9 hb9
        go_wp2_with fail
        go_roundg n
        case measure => rw [HK.out]; omega
        case rel => exact ⟨n, out ++ [x], withoutL L x, WB, wd, _, rfl, by simp; omega, by simp; omega, HE.out, rfl, by rw [ids_without, HI2.out, HLS.out], HO9.out, inner_without HN2.out, (fun y hy => HL2.out y (List.mem_filter.1 hy).1), by rw [List.length_append]; exact HX9.out, HB9.out⟩
      case false =>
        have hb' := of_decide_eq_false hb
        rw [hb] at HC34
        have HE : Hid (out = R) := Lib.hid (by rw [← HCH.out, choose_no hlt hb'])
        clear hb hb' hlt
        go_wp2_with fail
        refine Calls.mono HC28.out ?_
        rintro e w2 ⟨b, rfl, hcn, _, hb2⟩
        have HC := Lib.hid (HC34.out w2 b hcn)
        clear hcn
        go_wp2_with fail
        refine Calls.mono HC.out ?_
        rintro e w3 ⟨rfl, hb3⟩
        have hb4 := hb2.trans (hb3.mono hb2.size)
        have HO3 := Lib.hid (own_below HO.out hb4)
        have HB3 : Hid (Below w1.heap.size w1 w3) := Lib.hid (HB.out.trans (hb4.mono HB.out.size))
        clear hb2 hb3 hb4
        go_wp2_with fail
        go_ret
        rw [← HE.out]
        exact ⟨VA, VC, rfl, row_own HO3.out, h64, own_cap HO3.out, HQ.out _ _ HQ1.out HB3.out⟩
    · have HE : Hid (out = R) := Lib.hid (by rw [← HCH.out, choose_stop hlt])
      have hmn : ¬ (out.length : Int) < min most 64 := by omega
      clear hlt
      go_wp2_with fail
      go_ret
      rw [← HE.out]
      exact ⟨VA, VC, rfl, row_own HO.out, h64, own_cap HO.out, HQ.out _ _ HQ1.out HB.out⟩
end Go.Proofs.Ytijdkgklajdbnaa
