/- The walk over SparseDoes. -/
import Derived.Test.YtnpgfhoagpeelaaBT
namespace Go.Proofs.Ytnpgfhoagpeelaa
open Go.RowKit
open Go.Maps
theorem ref_new {T : Nat → Prop} {W : World} {ph mo : Nat} (hT : ∀ b, T b → b < W.heap.size) : Ref T (W.alloc (.cells #[.int .i64 (ph : Nat), .int .i64 (mo : Nat), .slice none 0 0] 32)) W.heap.size ph mo none 0 [] where
  hd := heap_alloc_new _ _
  rows := fun q => absurd rfl q
  ok := fun r hr => by cases hr
  cap := Nat.le_refl _
  num := Nat.zero_le _
  wbT := fun q => Nat.lt_irrefl _ (hT _ q)
  lt := fun b q => by rw [World.size_alloc]; have := hT b q; omega
theorem does3_bad {A : Option Addr} {n c : Nat} {W : World} {a b : Int} (h : ¬ (0 ≤ a ∧ a ≤ 64 ∧ 0 ≤ b ∧ b ≤ 65536)) :
    Calls Try.prog 3 #[.int .i64 a, .int .i64 b, .slice A n c] W fun r W' => r = .returned (.bool true) ∧ Below W.heap.size W W' := by
  have HN := Lib.hid (new6_bad W a b h)
  have HM := Lib.hid (may7 W a b)
  rw [decide_eq_false h] at HM
  have HAW := Lib.hid (awake8 W)
  clear h
  go_enter Try.func3, Try.ntmps3
  go_wp2_with fail
  refine Calls.mono HN.out ?_
  rintro _ W1 ⟨rfl, rfl⟩
  clear HN
  go_wp2_with fail
  refine Calls.mono HM.out ?_
  rintro _ W2 ⟨rfl, rfl⟩
  clear HM
  go_wp2_with fail
  refine Calls.mono HAW.out ?_
  rintro _ W3 ⟨rfl, hb⟩
  have HB := Lib.hid hb
  clear hb HAW
  go_wp2_with fail
  go_ret
  exact ⟨rfl, HB.out⟩
set_option maxRecDepth 100000 in
set_option maxHeartbeats 8000000 in
theorem does3_good {A : Option Addr} {c : Nat} {xs : List Act} {W : World} {ph mo : Nat} (h : Acts W A xs) (hph : ph ≤ 64) (hmo : mo ≤ 65536) :
    Calls Try.prog 3 #[.int .i64 (ph : Nat), .int .i64 (mo : Nat), .slice A xs.length c] W fun r W' => r = .returned (.bool true) ∧ Below W.heap.size W W' := by
  have HN := Lib.hid (new6 W ph mo hph hmo)
  have HM := Lib.hid (fun W1 => may7 W1 (ph : Nat) (mo : Nat))
  rw [decide_eq_true ⟨by omega, by omega, by omega, by omega⟩] at HM
  have HACT := Lib.hid h
  have hmoi : (0 : Int) ≤ ((mo : Nat) : Int) := by omega
  clear h
  go_enter Try.func3, Try.ntmps3
  go_wp2_with fail
  refine Calls.mono HN.out ?_
  rintro _ V0 ⟨xb, rfl, hx0⟩
  have HX0 := Lib.hid hx0
  have HM1 := Lib.hid (HM.out V0)
  clear hx0 HN
  go_wp2_with fail
  refine Calls.mono HM1.out ?_
  rintro _ V1 ⟨rfl, rfl⟩
  clear HM HM1
  obtain ⟨TX, hxs, hTX, _⟩ := HX0.out.own2 (Below.refl _ _)
  have HJ0 : Hid (Jt W (V1.alloc (.cells #[.int .i64 (ph : Nat), .int .i64 (mo : Nat), .slice none 0 0] 32)) xb V1.heap.size ph mo 0 []) := Lib.hid (by
    have hb : Below V1.heap.size V1 (V1.alloc (.cells #[.int .i64 (ph : Nat), .int .i64 (mo : Nat), .slice none 0 0] 32)) := (Below.refl _ _).alloc (Nat.le_refl _) _
    have hbw := tn_below HX0.out
    exact ⟨TX, [], none, 0, [], hxs.rebase hb (fun b q => (hTX b q).1), ref_new (fun b q => (hTX b q).1), rfl, rfl, fun b q => (hTX b q).2, hbw.size, hbw.trans (hb.mono hbw.size)⟩)
  obtain ⟨wb, hwb⟩ : ∃ wb, wb = V1.heap.size := ⟨_, rfl⟩
  rw [← hwb] at HJ0
  have HWB := Lib.hid hwb
  clear hxs hTX hwb
  go_wp2_with fail
  try rw [← HWB.out]
  clear HWB
  generalize V1.alloc (.cells #[.int .i64 (ph : Nat), .int .i64 (mo : Nat), .slice none 0 0] 32) = V2 at *
  go_loopg [10] 40 (fun gk i wr => ∃ (k : Nat) (R : List Rw), k ≤ xs.length ∧ k ≤ 40 ∧ gk = 40 - k ∧ i = .int .i64 k ∧ Jt W wr xb wb ph mo (20 * k) R)
  case atStart => exact ⟨0, [], Nat.zero_le _, Nat.zero_le _, rfl, rfl, HJ0.out⟩
  case round =>
    obtain ⟨k, R, hk, hk40, hgk, rfl, hj⟩ := hrel
    have HK := Lib.hid hgk
    have HJ := Lib.hid hj
    have HBK : Hid (Below W.heap.size W wr) := Lib.hid (by obtain ⟨_, _, _, _, _, _, _, _, _, _, _, q⟩ := hj; exact q)
    clear hgk hj HJ0
    have hk0 : (0 : Int) ≤ (k : Int) := by omega
    by_cases hlt : k < xs.length ∧ k < 40
    · obtain ⟨⟨kind, man, HA, hc, hs⟩, hx⟩ : ∃ x, xs[k]? = some x := ⟨_, List.getElem?_eq_getElem hlt.1⟩
      have hk1 : (k : Int) < (xs.length : Int) := by omega
      have hk2 : (k : Int) < 40 := by omega
      obtain ⟨ab, ao, rfl, cc0, cc1, cc2⟩ := (HACT.out.below HBK.out).get hx
      have hxa := HACT.out.2 _ (List.mem_of_getElem? hx)
      have HXA1 : Hid (Fps W HA hs) := Lib.hid hxa.1
      have HXA2 : Hid (AllFp hs) := Lib.hid hxa.2.1
      have HXA3 : Hid (AOz HA hs.length) := Lib.hid hxa.2.2
      replace cc0 : wr.cell? ⟨ab, ao + k * 3, none⟩ = some (.int .i64 kind) := cc0
      replace cc1 : wr.cell? ⟨ab, ao + k * 3 + 1, none⟩ = some (.int .u32 man) := cc1
      replace cc2 : wr.cell? ⟨ab, ao + k * 3 + 2, none⟩ = some (.slice HA hs.length hc) := cc2
      clear hx hxa
      by_cases hlx : 20 < hs.length
      · have hlxi : (20 : Int) < (hs.length : Int) := by omega
        have HAW := Lib.hid (awake8 wr)
        go_wp2_with fail
        refine Calls.mono HAW.out ?_
        rintro _ V3 ⟨rfl, hb⟩
        have HB1 := Lib.hid (HBK.out.trans (hb.mono HBK.out.size))
        clear hb
        go_wp2_with fail
        go_ret
        exact ⟨rfl, HB1.out⟩
      · have hlxi : ¬ (20 : Int) < (hs.length : Int) := by omega
        have HC9 := Lib.hid (does9 (c := hc) (kind := kind) (man := man) HJ.out HXA1.out HXA2.out HXA3.out (by omega) (by omega))
        unfold DoesPost at HC9
        go_wp2_with fail
        refine Calls.mono HC9.out ?_
        rintro _ V3 ⟨rfl, hj3⟩
        have HC10 := Lib.hid (same10 hj3 (by omega))
        unfold DoesPost at HC10
        clear hj3 HC9 cc0 cc1 cc2
        generalize actA ph mo R kind man hs = R2 at *
        go_wp2_with fail
        refine Calls.mono HC10.out ?_
        rintro _ V4 ⟨rfl, hj4⟩
        have HJ4 : Hid (Jt W V4 xb wb ph mo (20 * (k + 1)) R2) := Lib.hid hj4
        obtain ⟨T4, E4, A4, c4, rs4, hx4, _, hE4, _⟩ := hj4
        have HC11 := Lib.hid (len11 hx4)
        rw [hE4] at HC11
        have htot : lnA R2 ≤ mo := by rw [← hE4]; exact hx4.rg.tot
        have hti : ¬ ((mo : Nat) : Int) < ((lnA R2 : Nat) : Int) := by omega
        clear hx4 hE4 HC10
        go_wp2_with fail
        refine Calls.mono HC11.out ?_
        rintro _ V5 ⟨rfl, rfl⟩
        clear HC11
        generalize lnA R2 = L2 at *
        go_wp2_with fail
        go_roundg (40 - (k + 1))
        case measure => rw [HK.out]; omega
        case rel => exact ⟨k + 1, R2, by omega, by omega, rfl, by go_num, HJ4.out⟩
    · have HAW := Lib.hid (awake8 wr)
      by_cases hkl : k < xs.length
      · have hk1 : (k : Int) < (xs.length : Int) := by omega
        have hk2 : ¬ (k : Int) < 40 := by omega
        go_wp2_with fail
        refine Calls.mono HAW.out ?_
        rintro _ V3 ⟨rfl, hb⟩
        have HB1 := Lib.hid (HBK.out.trans (hb.mono HBK.out.size))
        clear hb
        go_wp2_with fail
        go_ret
        exact ⟨rfl, HB1.out⟩
      · have hk1 : ¬ (k : Int) < (xs.length : Int) := by omega
        go_wp2_with fail
        refine Calls.mono HAW.out ?_
        rintro _ V3 ⟨rfl, hb⟩
        have HB1 := Lib.hid (HBK.out.trans (hb.mono HBK.out.size))
        clear hb
        go_wp2_with fail
        go_ret
        exact ⟨rfl, HB1.out⟩
theorem does3 {A : Option Addr} {c : Nat} {xs : List Act} {W : World} {a b : Int} (h : Acts W A xs) :
    Calls Try.prog 3 #[.int .i64 a, .int .i64 b, .slice A xs.length c] W fun r W' => r = .returned (.bool true) ∧ Below W.heap.size W W' := by
  by_cases hm : 0 ≤ a ∧ a ≤ 64 ∧ 0 ≤ b ∧ b ≤ 65536
  · obtain ⟨ph, rfl⟩ : ∃ ph : Nat, a = (ph : Nat) := ⟨a.toNat, by omega⟩
    obtain ⟨mo, rfl⟩ : ∃ mo : Nat, b = (mo : Nat) := ⟨b.toNat, by omega⟩
    exact does3_good h (by omega) (by omega)
  · exact does3_bad hm
end Go.Proofs.Ytnpgfhoagpeelaa
