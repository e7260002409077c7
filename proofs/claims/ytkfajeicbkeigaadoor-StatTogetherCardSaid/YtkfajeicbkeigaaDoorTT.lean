/- The walks over the reference's Whole, Gains, Both, Long. -/
import Derived.Test.YtkfajeicbkeigaaDoorTS
namespace Go.Proofs.YtkfajeicbkeigaaDoor
open Go.RowKit Go.Maps
theorem sumT_congr {L : List Ck} {f g : Plc → Bool} (h : ∀ c ∈ L, f c.1 = g c.1) (k : Nat) : sumT L f k = sumT L g k := by
  unfold sumT
  congr 1
  apply List.map_congr_left
  intro c hc
  rw [h c (List.mem_of_mem_take hc)]
/-- what is known of the places of uses that may be -/
def PlFew (L : List Ck) : Prop := L.length ≤ 120 ∧ ∀ c ∈ L, 1 ≤ c.2 ∧ c.2 ≤ 4096
set_option maxRecDepth 100000 in
set_option maxHeartbeats 8000000 in
theorem rwhole28 {A : Option Addr} {c : Nat} {vs : List Us} {w : World} (h : Uss w A vs) (hl : Lim vs) (hc : chk vs = 0) :
    Calls Tryd.prog 28 #[.slice A vs.length c] w fun e w' => e = .returned (.int .i64 (sumT (pl (prs vs)) (fun _ => true) (pl (prs vs)).length)) ∧ Below w.heap.size w w' := by
  have HPL : Hid (PlFew (pl (prs vs))) := Lib.hid ⟨pl_few hl, fun c hc' => by
    obtain ⟨x, hx, rfl⟩ := pl_of c hc'
    obtain ⟨u, hu, c', hc2, rfl⟩ := mem_prs.1 hx
    exact chk_ok hc u hu c' hc2⟩
  have HC := Lib.hid (places32 (c := c) h hl)
  have HSP : Hid (∀ k, k ≤ (pl (prs vs)).length → 0 ≤ sumT (pl (prs vs)) (fun _ => true) k ∧ sumT (pl (prs vs)) (fun _ => true) k ≤ 4096 * k) := Lib.hid (fun k hk => sumT_span HPL.out.2 k hk)
  have HST : Hid (∀ (k : Nat) (c : Ck), (pl (prs vs))[k]? = some c → sumT (pl (prs vs)) (fun _ => true) (k + 1) = sumT (pl (prs vs)) (fun _ => true) k + (if (fun _ => true) c.1 then c.2 else 0)) := Lib.hid (fun k c h => sumT_step h)
  have HT0 : Hid (sumT (pl (prs vs)) (fun _ => true) 0 = 0) := Lib.hid rfl
  generalize hS : sumT (pl (prs vs)) (fun _ => true) = S at *
  have HALL : Hid (∀ p : Plc, (fun _ => true) p = true) := Lib.hid (fun _ => rfl)
  generalize hg : ((fun _ => true) : Plc → Bool) = g at *
  generalize hL : pl (prs vs) = L at *
  clear h hl hc hS hg hL
  go_enter Tryd.func28, Tryd.ntmps28
  go_wp2_with fail
  refine Calls.mono HC.out ?_
  rintro e w1 ⟨PA, d, rfl, hck, hb1⟩
  have HCK := Lib.hid hck
  have HB1 := Lib.hid hb1
  have hLn := HPL.out.1
  clear hck hb1
  go_wp2_with fail
  go_loopg [4, 5] L.length (fun gk r i wr => ∃ k : Nat, k ≤ L.length ∧ gk = L.length - k ∧ i = .int .i64 k ∧ r = .int .i64 (S k) ∧ Below w1.heap.size w1 wr)
  case atStart => exact ⟨0, Nat.zero_le _, rfl, rfl, by rw [HT0.out], Below.refl _ _⟩
  case round =>
    obtain ⟨k, hk, hgk, rfl, rfl, hb⟩ := hrel
    have HK := Lib.hid hgk
    have HB := Lib.hid hb
    have HBW : Hid (Below w.heap.size w wr) := Lib.hid (HB1.out.trans (hb.mono HB1.out.size))
    clear hgk hb
    by_cases hlt : k < L.length
    · obtain ⟨x, hx⟩ : ∃ x, L[k]? = some x := ⟨L[k]'hlt, by simp⟩
      have HGX : Hid (∀ W, Below w1.heap.size w1 W → ∃ b o, PA = some ⟨b, o, none⟩ ∧ b < W.heap.size ∧ W.rangeAt b (o + k * 3) (ckV x)) := Lib.hid (fun W hb => (HCK.out.below hb).get hx)
      obtain ⟨b, o, hA, _, _⟩ := HGX.out w1 (Below.refl _ _)
      subst hA
      have HF : Hid (∀ W, Below w1.heap.size w1 W → W.cell? ⟨b, o + k * 3, none⟩ = some (.int .u32 x.1.1) ∧ W.cell? ⟨b, o + k * 3 + 1, none⟩ = some (.int .i64 x.1.2) ∧ W.cell? ⟨b, o + k * 3 + 2, none⟩ = some (.int .i64 x.2)) := Lib.hid (fun W hb => by
        obtain ⟨b', o', e, _, h2⟩ := HGX.out W hb
        injection e with e
        injection e with e1 e2
        subst e1 e2
        exact ⟨h2 0 _ rfl, h2 1 _ rfl, h2 2 _ rfl⟩)
      obtain ⟨f0, f1, f2⟩ := HF.out _ HB.out
      have HSX := Lib.hid (HST.out k x hx)
      have hsp := HSP.out k hk
      have hsp2 := HPL.out.2 x (List.mem_of_getElem? hx)
      have hk0 : (0 : Int) ≤ (k : Int) := by omega
      have hk1 : (k : Int) < (L.length : Int) := by omega
      have HE : Hid (S (k + 1) = S k + x.2) := Lib.hid (by rw [HSX.out, if_pos (HALL.out x.1)])
      obtain ⟨⟨xb, xs⟩, xl⟩ := x
      simp only at *
      clear hx
      go_wp2_with fail
      go_roundg (L.length - (k + 1))
      case measure => rw [HK.out]; omega
      case rel => exact ⟨k + 1, by omega, rfl, by go_num, by rw [HE.out], HB.out⟩
    · obtain rfl : k = L.length := by omega
      go_wp2_with fail
      go_ret
      exact ⟨rfl, HBW.out⟩
set_option maxRecDepth 100000 in
set_option maxHeartbeats 8000000 in
theorem rgains29 {A NA : Option Addr} {c cc : Nat} {vs : List Us} {ns : List Nm} {w : World} (h : Uss w A vs) (hl : Lim vs) (hc : chk vs = 0) (hns : Nms w NA ns) (hnn : ns.length ≤ 1000) :
    Calls Tryd.prog 29 #[.slice A vs.length c, .slice NA ns.length cc] w fun e w' => e = .returned (.int .i64 (sumT (pl (prs vs)) (fun p => byB vs p ns) (pl (prs vs)).length)) ∧ Below w.heap.size w w' := by
  have HPL : Hid (PlFew (pl (prs vs))) := Lib.hid ⟨pl_few hl, fun c hc' => by
    obtain ⟨x, hx, rfl⟩ := pl_of c hc'
    obtain ⟨u, hu, c', hc2, rfl⟩ := mem_prs.1 hx
    exact chk_ok hc u hu c' hc2⟩
  have HC := Lib.hid (places32 (c := c) h hl)
  have HBYC : Hid (∀ W, Below w.heap.size w W → ∀ p : Plc, Calls Tryd.prog 34 #[.slice A vs.length c, .agg #[.int .u32 p.1, .int .i64 p.2], .slice NA ns.length cc] W fun e w' => e = .returned (.bool (byB vs p ns)) ∧ Below W.heap.size W w') := Lib.hid (fun W hb p => by34 (h.below hb) hl (hns.below hb) hnn p)
  have HSP : Hid (∀ k, k ≤ (pl (prs vs)).length → 0 ≤ sumT (pl (prs vs)) (fun p => byB vs p ns) k ∧ sumT (pl (prs vs)) (fun p => byB vs p ns) k ≤ 4096 * k) := Lib.hid (fun k hk => sumT_span HPL.out.2 k hk)
  have HST : Hid (∀ (k : Nat) (c : Ck), (pl (prs vs))[k]? = some c → sumT (pl (prs vs)) (fun p => byB vs p ns) (k + 1) = sumT (pl (prs vs)) (fun p => byB vs p ns) k + (if (fun p => byB vs p ns) c.1 then c.2 else 0)) := Lib.hid (fun k c h => sumT_step h)
  have HT0 : Hid (sumT (pl (prs vs)) (fun p => byB vs p ns) 0 = 0) := Lib.hid rfl
  generalize hS : sumT (pl (prs vs)) (fun p => byB vs p ns) = S at *
  have HGE0 : Hid (∀ p, (fun p => byB vs p ns) p = byB vs p ns) := Lib.hid (fun _ => rfl)
  generalize hg : ((fun p => byB vs p ns) : Plc → Bool) = g at *
  have HGE : Hid (∀ p, g p = byB vs p ns) := HGE0
  generalize hL : pl (prs vs) = L at *
  clear h hl hc hS hg hL hns hnn
  go_enter Tryd.func29, Tryd.ntmps29
  go_wp2_with fail
  refine Calls.mono HC.out ?_
  rintro e w1 ⟨PA, d, rfl, hck, hb1⟩
  have HCK := Lib.hid hck
  have HB1 := Lib.hid hb1
  have hLn := HPL.out.1
  clear hck hb1
  go_wp2_with fail
  go_loopg [6, 7] L.length (fun gk r i wr => ∃ k : Nat, k ≤ L.length ∧ gk = L.length - k ∧ i = .int .i64 k ∧ r = .int .i64 (S k) ∧ Below w1.heap.size w1 wr)
  case atStart => exact ⟨0, Nat.zero_le _, rfl, rfl, by rw [HT0.out], Below.refl _ _⟩
  case round =>
    obtain ⟨k, hk, hgk, rfl, rfl, hb⟩ := hrel
    have HK := Lib.hid hgk
    have HB := Lib.hid hb
    have HBW : Hid (Below w.heap.size w wr) := Lib.hid (HB1.out.trans (hb.mono HB1.out.size))
    clear hgk hb
    by_cases hlt : k < L.length
    · obtain ⟨x, hx⟩ : ∃ x, L[k]? = some x := ⟨L[k]'hlt, by simp⟩
      have HGX : Hid (∀ W, Below w1.heap.size w1 W → ∃ b o, PA = some ⟨b, o, none⟩ ∧ b < W.heap.size ∧ W.rangeAt b (o + k * 3) (ckV x)) := Lib.hid (fun W hb => (HCK.out.below hb).get hx)
      obtain ⟨b, o, hA, _, _⟩ := HGX.out w1 (Below.refl _ _)
      subst hA
      have HF : Hid (∀ W, Below w1.heap.size w1 W → W.cell? ⟨b, o + k * 3, none⟩ = some (.int .u32 x.1.1) ∧ W.cell? ⟨b, o + k * 3 + 1, none⟩ = some (.int .i64 x.1.2) ∧ W.cell? ⟨b, o + k * 3 + 2, none⟩ = some (.int .i64 x.2)) := Lib.hid (fun W hb => by
        obtain ⟨b', o', e, _, h2⟩ := HGX.out W hb
        injection e with e
        injection e with e1 e2
        subst e1 e2
        exact ⟨h2 0 _ rfl, h2 1 _ rfl, h2 2 _ rfl⟩)
      obtain ⟨f0, f1, f2⟩ := HF.out _ HB.out
      have HSX := Lib.hid (HST.out k x hx)
      have hsp := HSP.out k hk
      have hsp2 := HPL.out.2 x (List.mem_of_getElem? hx)
      have hk0 : (0 : Int) ≤ (k : Int) := by omega
      have hk1 : (k : Int) < (L.length : Int) := by omega
      have HCX : Hid (Calls Tryd.prog 34 #[.slice A vs.length c, .agg #[.int .u32 x.1.1, .int .i64 x.1.2], .slice NA ns.length cc] wr fun e w' => e = .returned (.bool (g x.1)) ∧ Below wr.heap.size wr w') := Lib.hid (by rw [HGE.out]; exact HBYC.out wr HBW.out x.1)
      obtain ⟨⟨xb, xs⟩, xl⟩ := x
      simp only at *
      clear hx
      cases hgx : g (xb, xs)
      case false =>
        rw [hgx] at HCX
        have HE : Hid (S (k + 1) = S k) := Lib.hid (by rw [HSX.out, hgx]; simp)
        clear hgx
        go_wp2_with fail
        refine Calls.mono HCX.out ?_
        rintro e w2 ⟨rfl, hb2⟩
        have HB2 : Hid (Below w1.heap.size w1 w2) := Lib.hid (HB.out.trans (hb2.mono HB.out.size))
        clear hb2 f0 f1 f2
        go_wp2_with fail
        go_roundg (L.length - (k + 1))
        case measure => rw [HK.out]; omega
        case rel => exact ⟨k + 1, by omega, rfl, by go_num, by rw [HE.out], HB2.out⟩
      case true =>
        rw [hgx] at HCX
        have HE : Hid (S (k + 1) = S k + xl) := Lib.hid (by rw [HSX.out, hgx]; simp)
        clear hgx
        go_wp2_with fail
        refine Calls.mono HCX.out ?_
        rintro e w2 ⟨rfl, hb2⟩
        have HB2 : Hid (Below w1.heap.size w1 w2) := Lib.hid (HB.out.trans (hb2.mono HB.out.size))
        clear hb2 f0 f1 f2
        obtain ⟨_, _, f2⟩ := HF.out _ HB2.out
        go_wp2_with fail
        go_roundg (L.length - (k + 1))
        case measure => rw [HK.out]; omega
        case rel => exact ⟨k + 1, by omega, rfl, by go_num, by rw [HE.out], HB2.out⟩
    · obtain rfl : k = L.length := by omega
      go_wp2_with fail
      go_ret
      exact ⟨rfl, HBW.out⟩
set_option maxRecDepth 100000 in
set_option maxHeartbeats 8000000 in
theorem rboth30 {A : Option Addr} {c : Nat} {vs : List Us} {s u : Nm} {w : World} (h : Uss w A vs) (hl : Lim vs) (hc : chk vs = 0) :
    Calls Tryd.prog 30 #[.slice A vs.length c, .string (str s), .string (str u)] w fun e w' => e = .returned (.int .i64 (sumT (pl (prs vs)) (fun p => hasB vs s p && hasB vs u p) (pl (prs vs)).length)) ∧ Below w.heap.size w w' := by
  have HPL : Hid (PlFew (pl (prs vs))) := Lib.hid ⟨pl_few hl, fun c hc' => by
    obtain ⟨x, hx, rfl⟩ := pl_of c hc'
    obtain ⟨u, hu, c', hc2, rfl⟩ := mem_prs.1 hx
    exact chk_ok hc u hu c' hc2⟩
  have HC := Lib.hid (places32 (c := c) h hl)
  have HBYC : Hid (∀ W, Below w.heap.size w W → ∀ (nm : Nm) (p : Plc), Calls Tryd.prog 51 #[.slice A vs.length c, .string (str nm), .agg #[.int .u32 p.1, .int .i64 p.2]] W fun e w' => e = .returned (.bool (hasB vs nm p)) ∧ Below W.heap.size W w') := Lib.hid (fun W hb nm p => has51 (h.below hb) hl nm p)
  have HSP : Hid (∀ k, k ≤ (pl (prs vs)).length → 0 ≤ sumT (pl (prs vs)) (fun p => hasB vs s p && hasB vs u p) k ∧ sumT (pl (prs vs)) (fun p => hasB vs s p && hasB vs u p) k ≤ 4096 * k) := Lib.hid (fun k hk => sumT_span HPL.out.2 k hk)
  have HST : Hid (∀ (k : Nat) (c : Ck), (pl (prs vs))[k]? = some c → sumT (pl (prs vs)) (fun p => hasB vs s p && hasB vs u p) (k + 1) = sumT (pl (prs vs)) (fun p => hasB vs s p && hasB vs u p) k + (if (fun p => hasB vs s p && hasB vs u p) c.1 then c.2 else 0)) := Lib.hid (fun k c h => sumT_step h)
  have HT0 : Hid (sumT (pl (prs vs)) (fun p => hasB vs s p && hasB vs u p) 0 = 0) := Lib.hid rfl
  generalize hS : sumT (pl (prs vs)) (fun p => hasB vs s p && hasB vs u p) = S at *
  have HGE0 : Hid (∀ p, (fun p => hasB vs s p && hasB vs u p) p = (hasB vs s p && hasB vs u p)) := Lib.hid (fun _ => rfl)
  generalize hg : ((fun p => hasB vs s p && hasB vs u p) : Plc → Bool) = g at *
  have HGE : Hid (∀ p, g p = (hasB vs s p && hasB vs u p)) := HGE0
  generalize hL : pl (prs vs) = L at *
  clear h hl hc hS hg hL
  go_enter Tryd.func30, Tryd.ntmps30
  go_wp2_with fail
  refine Calls.mono HC.out ?_
  rintro e w1 ⟨PA, d, rfl, hck, hb1⟩
  have HCK := Lib.hid hck
  have HB1 := Lib.hid hb1
  have hLn := HPL.out.1
  clear hck hb1
  go_wp2_with fail
  go_loopg [8, 9] L.length (fun gk r i wr => ∃ k : Nat, k ≤ L.length ∧ gk = L.length - k ∧ i = .int .i64 k ∧ r = .int .i64 (S k) ∧ Below w1.heap.size w1 wr)
  case atStart => exact ⟨0, Nat.zero_le _, rfl, rfl, by rw [HT0.out], Below.refl _ _⟩
  case round =>
    obtain ⟨k, hk, hgk, rfl, rfl, hb⟩ := hrel
    have HK := Lib.hid hgk
    have HB := Lib.hid hb
    have HBW : Hid (Below w.heap.size w wr) := Lib.hid (HB1.out.trans (hb.mono HB1.out.size))
    clear hgk hb
    by_cases hlt : k < L.length
    · obtain ⟨x, hx⟩ : ∃ x, L[k]? = some x := ⟨L[k]'hlt, by simp⟩
      have HGX : Hid (∀ W, Below w1.heap.size w1 W → ∃ b o, PA = some ⟨b, o, none⟩ ∧ b < W.heap.size ∧ W.rangeAt b (o + k * 3) (ckV x)) := Lib.hid (fun W hb => (HCK.out.below hb).get hx)
      obtain ⟨b, o, hA, _, _⟩ := HGX.out w1 (Below.refl _ _)
      subst hA
      have HF : Hid (∀ W, Below w1.heap.size w1 W → W.cell? ⟨b, o + k * 3, none⟩ = some (.int .u32 x.1.1) ∧ W.cell? ⟨b, o + k * 3 + 1, none⟩ = some (.int .i64 x.1.2) ∧ W.cell? ⟨b, o + k * 3 + 2, none⟩ = some (.int .i64 x.2)) := Lib.hid (fun W hb => by
        obtain ⟨b', o', e, _, h2⟩ := HGX.out W hb
        injection e with e
        injection e with e1 e2
        subst e1 e2
        exact ⟨h2 0 _ rfl, h2 1 _ rfl, h2 2 _ rfl⟩)
      obtain ⟨f0, f1, f2⟩ := HF.out _ HB.out
      have HSX := Lib.hid (HST.out k x hx)
      have hsp := HSP.out k hk
      have hsp2 := HPL.out.2 x (List.mem_of_getElem? hx)
      have hk0 : (0 : Int) ≤ (k : Int) := by omega
      have hk1 : (k : Int) < (L.length : Int) := by omega
      have HCX : Hid (Calls Tryd.prog 51 #[.slice A vs.length c, .string (str s), .agg #[.int .u32 x.1.1, .int .i64 x.1.2]] wr fun e w' => e = .returned (.bool (hasB vs s x.1)) ∧ Below wr.heap.size wr w') := Lib.hid (HBYC.out wr HBW.out s x.1)
      have HCY : Hid (∀ W, Below w.heap.size w W → Calls Tryd.prog 51 #[.slice A vs.length c, .string (str u), .agg #[.int .u32 x.1.1, .int .i64 x.1.2]] W fun e w' => e = .returned (.bool (hasB vs u x.1)) ∧ Below W.heap.size W w') := Lib.hid (fun W hb => HBYC.out W hb u x.1)
      have HGX2 := Lib.hid (HGE.out x.1)
      obtain ⟨⟨xb, xs⟩, xl⟩ := x
      simp only at *
      clear hx
      cases hgs : hasB vs s (xb, xs)
      case false =>
        rw [hgs] at HCX HGX2
        have HE : Hid (S (k + 1) = S k) := Lib.hid (by rw [HSX.out, HGX2.out]; simp)
        clear hgs
        go_wp2_with fail
        refine Calls.mono HCX.out ?_
        rintro e w2 ⟨rfl, hb2⟩
        have HB2 : Hid (Below w1.heap.size w1 w2) := Lib.hid (HB.out.trans (hb2.mono HB.out.size))
        clear hb2 f0 f1 f2
        go_wp2_with fail
        go_roundg (L.length - (k + 1))
        case measure => rw [HK.out]; omega
        case rel => exact ⟨k + 1, by omega, rfl, by go_num, by rw [HE.out], HB2.out⟩
      case true =>
        rw [hgs] at HCX HGX2
        cases hgu : hasB vs u (xb, xs)
        all_goals
          rw [hgu] at HCY HGX2
        case false =>
          have HE : Hid (S (k + 1) = S k) := Lib.hid (by rw [HSX.out, HGX2.out]; simp)
          clear hgs hgu
          go_wp2_with fail
          refine Calls.mono HCX.out ?_
          rintro e w2 ⟨rfl, hb2⟩
          have HBa : Hid (Below w1.heap.size w1 w2) := Lib.hid (HB.out.trans (hb2.mono HB.out.size))
          have HBb : Hid (Below w.heap.size w w2) := Lib.hid (HB1.out.trans (HBa.out.mono HB1.out.size))
          clear hb2 f0 f1 f2
          obtain ⟨f0, f1, _⟩ := HF.out _ HBa.out
          go_wp2_with fail
          refine Calls.mono (HCY.out _ HBb.out) ?_
          rintro e w3 ⟨rfl, hb3⟩
          have HB2 : Hid (Below w1.heap.size w1 w3) := Lib.hid (HBa.out.trans (hb3.mono HBa.out.size))
          clear hb3 f0 f1
          go_wp2_with fail
          go_roundg (L.length - (k + 1))
          case measure => rw [HK.out]; omega
          case rel => exact ⟨k + 1, by omega, rfl, by go_num, by rw [HE.out], HB2.out⟩
        case true =>
          have HE : Hid (S (k + 1) = S k + xl) := Lib.hid (by rw [HSX.out, HGX2.out]; simp)
          clear hgs hgu
          go_wp2_with fail
          refine Calls.mono HCX.out ?_
          rintro e w2 ⟨rfl, hb2⟩
          have HBa : Hid (Below w1.heap.size w1 w2) := Lib.hid (HB.out.trans (hb2.mono HB.out.size))
          have HBb : Hid (Below w.heap.size w w2) := Lib.hid (HB1.out.trans (HBa.out.mono HB1.out.size))
          clear hb2 f0 f1 f2
          obtain ⟨f0, f1, _⟩ := HF.out _ HBa.out
          go_wp2_with fail
          refine Calls.mono (HCY.out _ HBb.out) ?_
          rintro e w3 ⟨rfl, hb3⟩
          have HB2 : Hid (Below w1.heap.size w1 w3) := Lib.hid (HBa.out.trans (hb3.mono HBa.out.size))
          clear hb3 f0 f1
          obtain ⟨_, _, f2⟩ := HF.out _ HB2.out
          go_wp2_with fail
          go_roundg (L.length - (k + 1))
          case measure => rw [HK.out]; omega
          case rel => exact ⟨k + 1, by omega, rfl, by go_num, by rw [HE.out], HB2.out⟩
    · obtain rfl : k = L.length := by omega
      go_wp2_with fail
      go_ret
      exact ⟨rfl, HBW.out⟩
end Go.Proofs.YtkfajeicbkeigaaDoor
