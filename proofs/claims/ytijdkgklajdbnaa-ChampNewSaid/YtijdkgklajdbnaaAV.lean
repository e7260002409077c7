/- The walk over Score, Cover, Choose. -/
import Derived.Test.YtijdkgklajdbnaaAU
namespace Go.Proofs.Ytijdkgklajdbnaa
open Go.RowKit
open Go.Maps
def BelowOk (Q : World → Prop) : Prop := ∀ W W', Q W → Below W.heap.size W W' → Q W'
/-- what ask answers -/
def Asked (A : Option Addr) (n c : Nat) (look : Value) (w : World) (P : List (List Id)) (Q : World → Prop) : Prop :=
  Calls Try.prog 29 #[.slice A n c, look] w fun e w' => ∃ B d vs, e = .returned (.slice B vs.length d) ∧ ids vs = P ∧ w'.ownsRow w.heap.size 30 1 (.slice B vs.length d) vs.length (lsL vs) ∧ Inner w' vs ∧ (∀ x ∈ vs, x.l.length ≤ 12) ∧ Q w'
def AllOk (P : List (List Id)) : Prop := ∀ l ∈ P, ∀ y ∈ l, IdOk y
set_option maxRecDepth 100000 in
set_option maxHeartbeats 2000000 in
theorem score10 {A : Option Addr} {n c : Nat} {look : Value} {w : World} {P : List (List Id)} {Q : World → Prop} {man : Id} (h : Asked A n c look w P Q) (hq : BelowOk Q) (hP : AllOk P) (hn : P.length ≤ 1000) (hman : IdOk man) :
    Calls Try.prog 10 #[.slice A n c, look, .int .u32 man] w fun e w' => e = .returned (.int .i64 (cntF P.flatten man : Nat)) ∧ Q w' := by
  have H := Lib.hid h
  have HQ := Lib.hid hq
  have HP := Lib.hid hP
  have HKY : Hid (keyOf Try.prog 24 (.int .u32 man) = some (.int .u32 man)) := Lib.hid (keyOf_int_mk Try.underlying24 (wf24 hman))
  clear h hq hP hman
  go_enter Try.func10, Try.ntmps10
  go_wp2_with fail
  refine Calls.mono H.out ?_
  rintro e w1 ⟨B, d, vs, rfl, hids, hrow, hin, h12, hq1⟩
  have HIDS := Lib.hid hids
  have HC := Lib.hid (counts28 (c := d) (w := w1) ⟨row_own hrow, hin⟩ (by have := congrArg List.length hids; rw [ids_len] at this; omega) (fun x hx => by have := h12 x hx; omega) (fun x hx y hy => HP.out x.l (by rw [← hids]; exact List.mem_map.2 ⟨x, hx, rfl⟩) y hy))
  rw [hids] at HC
  have HQ1 := Lib.hid hq1
  clear hids hrow hin h12 hq1
  go_wp2_with fail
  refine Calls.mono HC.out ?_
  rintro e w2 ⟨b, rfl, ⟨m, D, hm, hcm, hown⟩, _, hb2⟩
  have HQ2 := Lib.hid (HQ.out _ _ HQ1.out hb2)
  have HMP := Lib.hid hown
  have HAT := Lib.hid (hcm.2 man).1
  obtain ⟨r, hr⟩ : ∃ r, cntF P.flatten man = r := ⟨_, rfl⟩
  have HRR := Lib.hid hr
  rw [hr] at HAT
  clear hr hcm hown hb2
  go_wp2_with (first
    | (at_lookup; refine wpList_lookup_own_int _ rfl _ _ 49 rfl 24 3 .i64 law24 Try.underlying49 Try.underlying3 (Try.zeroValue3 _) b _ _ rfl HMP.out _ _ rfl HKY.out ?_; intro c hat hwc; obtain rfl : c = (r : Int) := by (have := hat.symm.trans HAT.out; simpa using this)))
  go_ret
  exact ⟨by rw [HRR.out]; rfl, HQ2.out⟩
set_option maxRecDepth 100000 in
set_option maxHeartbeats 4000000 in
theorem cover15 {A B : Option Addr} {n c d : Nat} {look : Value} {w : World} {T : List (List Id)} {Q : World → Prop} {ch : List Id} (h : Asked A n c look w (askP T) Q) (hq : BelowOk Q) (hn : T.length ≤ 1000) (hch : ∀ W, Q W → Ids W B ch) (hcn : ch.length ≤ 1000000) :
    Calls Try.prog 15 #[.slice A n c, look, .slice B ch.length d] w fun e w' => e = .returned (.int .i64 (coverN T ch : Nat)) ∧ Q w' := by
  have H := Lib.hid h
  have HQ := Lib.hid hq
  have HCH := Lib.hid hch
  have HPL : Hid ((askP T).length = T.length) := Lib.hid (List.length_map ..)
  have HCV := Lib.hid (cover_len T ch)
  generalize (coverN T ch : Nat) = R at *
  generalize askP T = P at *
  have HTK : Hid (∀ k x, ch[k]? = some x → leftP P (ch.take (k + 1)) = (leftP P (ch.take k)).filter (noB x)) := Lib.hid (fun k x h => by rw [List.take_add_one, h]; exact leftP_snoc P (ch.take k) x)
  have HTE : Hid (leftP P (ch.take ch.length) = leftP P ch) := Lib.hid (by rw [List.take_length])
  have HT0 : Hid (leftP P (ch.take 0) = P) := Lib.hid (leftP_nil P)
  have HLL : Hid (∀ k, (leftP P (ch.take k)).length ≤ 1000) := Lib.hid (fun k => Nat.le_trans (List.length_filter_le ..) (by rw [HPL.out]; exact hn))
  clear h hq hch
  go_enter Try.func15, Try.ntmps15
  go_wp2_with fail
  refine Calls.mono H.out ?_
  rintro e w1 ⟨VB, vd, vs, rfl, hids, hrow, hin, h12, hq1⟩
  have HIDS := Lib.hid hids
  have HROW := Lib.hid hrow
  have HIN := Lib.hid hin
  have H12 := Lib.hid h12
  have HQ1 := Lib.hid hq1
  have HVL : Hid (vs.length = T.length) := Lib.hid (by rw [← ids_len, hids, HPL.out])
  clear hids hrow hin h12 hq1
  go_wp2_with fail
  go_loopg [8, 17] ch.length (fun gk v i wr => ∃ (k : Nat) (L : List Lst) (LA : Option Addr) (Lc b0 : Nat), k ≤ ch.length ∧ gk = ch.length - k ∧ i = .int .i64 k ∧ v = .slice LA L.length Lc ∧ ids L = leftP P (ch.take k) ∧ wr.ownsRow b0 30 1 (.slice LA L.length Lc) L.length (lsL L) ∧ Inner wr L ∧ (∀ x ∈ L, x.l.length ≤ 12) ∧ Q wr)
  case atStart => exact ⟨0, vs, VB, vd, _, Nat.zero_le _, rfl, rfl, rfl, by rw [HT0.out]; exact HIDS.out, HROW.out, HIN.out, H12.out, HQ1.out⟩
  case round =>
    obtain ⟨k, L, LA, Lc, b0, hk, hgk, rfl, rfl, hids, hrow, hin, h12, hq1⟩ := hrel
    have HK := Lib.hid hgk
    have HI2 := Lib.hid hids
    have HR2 := Lib.hid hrow
    have HN2 := Lib.hid hin
    have HL2 := Lib.hid h12
    have HQ2 := Lib.hid hq1
    have hll : L.length ≤ 1000 := by rw [← ids_len, hids]; exact HLL.out k
    clear hgk hids hrow hin h12 hq1
    have hk0 : (0 : Int) ≤ (k : Int) := by omega
    by_cases hlt : k < ch.length
    · obtain ⟨x, hx⟩ : ∃ x, ch[k]? = some x := ⟨_, List.getElem?_eq_getElem hlt⟩
      obtain ⟨b, o, rfl, _, c1⟩ := (HCH.out wr HQ2.out).get hx
      have HTS := Lib.hid (HTK.out k x hx)
      have HW := Lib.hid (without32 (c := Lc) (x := x) (w := wr) ⟨row_own HR2.out, HN2.out⟩ (aok_own HR2.out) (by omega) (fun x hx => by have := HL2.out x hx; omega))
      have hk1 : (k : Int) < (ch.length : Int) := by omega
      clear hx
      go_wp2_with fail
      refine Calls.mono HW.out ?_
      rintro e w3 ⟨WB, wd, rfl, ho3, hb3⟩
      have HO3 := Lib.hid ho3
      have HQ3 := Lib.hid (HQ.out _ _ HQ2.out hb3)
      have HN3 := Lib.hid (inner_without (x := x) (HN2.out.below hb3))
      clear ho3 hb3
      go_wp2_with fail
      go_roundg (ch.length - (k + 1))
      case measure => rw [HK.out]; omega
      case rel => exact ⟨k + 1, withoutL L x, WB, wd, _, by omega, rfl, by go_num, rfl, by rw [ids_without, HI2.out, HTS.out], HO3.out, HN3.out, (fun y hy => HL2.out y (List.mem_filter.1 hy).1), HQ3.out⟩
    · obtain rfl : k = ch.length := by omega
      have hr : (vs.length : Int) - (L.length : Int) = (R : Int) := by
        have h1 := congrArg List.length HI2.out
        rw [ids_len, HTE.out] at h1
        rw [HVL.out, h1, ← HPL.out]
        exact HCV.out
      have hw : IntKind.i64.wrap (R : Int) = (R : Int) := by
        have hvl := HVL.out
        rw [IntWalk.i64_in _ (by omega)]
      go_wp2_with fail
      go_ret
      exact ⟨rfl, HQ2.out⟩
end Go.Proofs.Ytijdkgklajdbnaa
