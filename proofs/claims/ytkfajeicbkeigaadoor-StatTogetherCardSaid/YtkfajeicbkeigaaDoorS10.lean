/- The walk over Div64, at quotients of 2000 at most. -/
import Derived.Test.YtkfajeicbkeigaaDoorS9
import Derived.Laws.Bits64b
import Derived.Deep.Cut
import Derived.Deep.DeepCutAuto
namespace Go.Proofs.YtkfajeicbkeigaaDoor
open Go.RowKit
set_option maxRecDepth 100000 in
set_option maxHeartbeats 2000000 in
theorem div41_0 (lo y : Nat) (hl : lo ≤ 18446744073709551615) (hy : y ≤ 9223372036854775807) (h0 : 0 < y) (w : World) :
    Calls Tryd.prog 41 #[.int .u64 0, .int .u64 lo, .int .u64 y] w fun e w' => e = .returned (.tuple #[.int .u64 ((lo / y : Nat) : Int), .int .u64 ((lo % y : Nat) : Int)]) ∧ ∃ n, w' = w.drewN n := by
  have h1 : ((y : Int) == 0) = false := by simp; omega
  have h2 : ¬ (y : Int) ≤ 0 := by omega
  have h3 : ¬ (y : Int) = 0 := by omega
  have d1 : (lo : Int).tdiv y = ((lo / y : Nat) : Int) := rfl
  have d2 : (lo : Int).tmod y = ((lo % y : Nat) : Int) := rfl
  have HA : Hid (lo / y ≤ lo ∧ lo % y < y) := Lib.hid ⟨Nat.div_le_self _ _, Nat.mod_lt _ h0⟩
  generalize lo / y = a at *
  generalize lo % y = b at *
  have w1 : IntKind.u64.wrap (a : Int) = (a : Int) := by rw [IntKind.wrap_u64]; have := HA.out; omega
  have w2 : IntKind.u64.wrap (b : Int) = (b : Int) := by rw [IntKind.wrap_u64]; have := HA.out; omega
  go_enter Tryd.func41, Tryd.ntmps41
  go_wp2_with fail
  go_quiet (fail)
  go_wp2_with fail
  go_ret2
  exact ⟨rfl, _, rfl⟩
theorem u64n (n : Nat) (h : n ≤ 18446744073709551615) : IntKind.u64.wrap (n : Int) = n := by rw [IntKind.wrap_u64]; omega
theorem and32 (n : Nat) (h : n ≤ 18446744073709551615) : bits .and .u64 (n : Int) 4294967295 = ((n % 4294967296 : Nat) : Int) := Mul64.maskN n (by omega)
theorem or64 (a b : Nat) (ha : a ≤ 18446744073709551615) (hb : b ≤ 18446744073709551615) : bits .or .u64 (a : Int) (b : Int) = ((a ||| b : Nat) : Int) := bits_or_u64_nat a b (by omega) (by omega)
theorem last_rest {N Y v L0 q : Nat} (hN : N = v * 4294967296 + L0) (hL : L0 < 4294967296) (hq : q = N / Y) (h0 : 0 < Y) (hY : Y ≤ 18446744073709551615) :
    ∃ VW QW : Nat, IntKind.u64.wrap ((v : Int) * 4294967296) = (VW : Int) ∧ VW + L0 ≤ 18446744073709551615 ∧ IntKind.u64.wrap ((q : Int) * (Y : Int)) = (QW : Int) ∧ IntKind.u64.wrap ((VW : Int) + (L0 : Int) - (QW : Int)) = ((N % Y : Nat) : Int) := by
  refine ⟨v * 4294967296 % 18446744073709551616, q * Y % 18446744073709551616, ?_, by omega, ?_, ?_⟩
  · rw [IntKind.wrap_u64]; omega
  · rw [IntKind.wrap_u64]; simp
  · have h1 := Nat.div_add_mod N Y
    have h2 := Nat.mod_lt N h0
    rw [← hq, Nat.mul_comm] at h1
    rw [IntKind.wrap_u64]
    generalize q * Y = P at *
    omega
set_option maxRecDepth 100000 in
set_option maxHeartbeats 4000000 in
theorem div41 (hi lo y : Nat) (h0 : 0 < hi) (hl : lo ≤ 18446744073709551615) (hy : y ≤ 9223372036854775807) (h1 : 0 < y) (hh : hi * 18446744073709551616 + lo ≤ 1000 * y) (w : World) :
    Calls Tryd.prog 41 #[.int .u64 hi, .int .u64 lo, .int .u64 y] w fun e w' => e = .returned (.tuple #[.int .u64 (((hi * 18446744073709551616 + lo) / y : Nat) : Int), .int .u64 (((hi * 18446744073709551616 + lo) % y : Nat) : Int)]) ∧ w' = w := by
  have h3 : ((y : Int) == 0) = false := by simp; omega
  have h4 : ¬ (y : Int) ≤ hi := by omega
  have h5 : ((hi : Int) == 0) = false := by simp; omega
  have h6 : hi < 1000 := by omega
  obtain ⟨s, hs, s63, s1, sb1, sb2⟩ := bits_span y h1 hy
  have HC : Hid (∀ W, Calls Tryd.prog 52 #[.int .u64 y] W fun e w' => e = .returned (.int .i64 s) ∧ w' = W) := Lib.hid (fun W => by rw [← hs]; exact Tryd.bits_LeadingZeros64 y W (by omega) (by omega))
  have HN : Hid (∃ n, n = hi * 18446744073709551616 + lo ∧ n * 2 ^ s = (hi * 2 ^ s + lo / 2 ^ (64 - s)) * 18446744073709551616 + lo * 2 ^ s % 18446744073709551616) := Lib.hid ⟨_, rfl, by
    have := low_split (lo := lo) s63
    rw [Nat.add_mul, Nat.mul_right_comm hi, this]
    omega⟩
  obtain ⟨n, hn, hN⟩ := HN.out
  rw [← hn]
  have hu1 : (hi * 2 ^ s + lo / 2 ^ (64 - s)) < 1000 := by
    have a1 : n * 2 ^ s ≤ 1000 * (y * 2 ^ s) := by rw [← Nat.mul_assoc]; exact Nat.mul_le_mul_right _ (by omega)
    omega
  have lo3 : lo / 2 ^ (64 - s) < 1000 := Nat.lt_of_le_of_lt (Nat.le_add_left _ _) hu1
  have hi3 : hi * 2 ^ s < 1000 := Nat.lt_of_le_of_lt (Nat.le_add_right _ _) hu1
  have E1 : IntKind.u64.wrap ((y : Int) * 2 ^ s) = ((y * 2 ^ s : Nat) : Int) := by
    rw [← u64n _ sb2]
    congr 1
  have E4 : IntKind.u64.wrap ((hi : Int) * 2 ^ s) = ((hi * 2 ^ s : Nat) : Int) := by
    rw [← u64n (hi * 2 ^ s) (by omega)]
    congr 1
  have E5 : (lo : Int) / 2 ^ (64 - s) = ((lo / 2 ^ (64 - s) : Nat) : Int) := by simp
  have E6 := or64 (hi * 2 ^ s) (lo / 2 ^ (64 - s)) (by omega) (by omega)
  rw [or_add s63 hl] at E6
  have E7 : IntKind.u64.wrap ((lo : Int) * 2 ^ s) = ((lo * 2 ^ s % 18446744073709551616 : Nat) : Int) := by
    rw [IntKind.wrap_u64]
    simp
  have l2 : lo * 2 ^ s % 18446744073709551616 ≤ 18446744073709551615 := by omega
  have HB : Hid (n / y = n * 2 ^ s / (y * 2 ^ s) ∧ n % y = n * 2 ^ s % (y * 2 ^ s) / 2 ^ s) := Lib.hid ⟨back_div.symm, back_mod.symm⟩
  rw [HB.out.1, HB.out.2]
  clear hn HN HB hs
  generalize hi * 2 ^ s + lo / 2 ^ (64 - s) = u at *
  generalize hi * 2 ^ s = hs at *
  generalize lo / 2 ^ (64 - s) = lq at *
  generalize lo * 2 ^ s % 18446744073709551616 = L at *
  generalize y * 2 ^ s = Y at *
  generalize n * 2 ^ s = N at *
  have E2 := and32 Y sb2
  have E9 := and32 L l2
  have y1b : 2147483648 ≤ Y / 4294967296 := by omega
  have ey : Y = Y / 4294967296 * 4294967296 + Y % 4294967296 := by omega
  have el : L = L / 4294967296 * 4294967296 + L % 4294967296 := by omega
  have y0b : Y % 4294967296 < 4294967296 := by omega
  have L0b : L % 4294967296 < 4294967296 := by omega
  have E3 : (Y : Int) / 4294967296 = ((Y / 4294967296 : Nat) : Int) := by omega
  have E8 : (L : Int) / 4294967296 = ((L / 4294967296 : Nat) : Int) := by omega
  have L1b : L / 4294967296 < 4294967296 := by omega
  have y1c : Y / 4294967296 < 4294967296 := by omega
  generalize Y / 4294967296 = y1 at *
  generalize Y % 4294967296 = y0 at *
  generalize L / 4294967296 = L1 at *
  generalize L % 4294967296 = L0 at *
  have E10 : (u : Int) / (y1 : Int) = 0 := Int.ediv_eq_zero_of_lt (by omega) (by omega)
  have hy1 : ¬ (y1 : Int) = 0 := by omega
  have ls : 0 ≤ (s : Int) ∧ (s : Int) ≤ 63 := by omega
  have HN := Lib.hid hN
  have HY := Lib.hid ey
  have HL := Lib.hid el
  clear hN ey el
  obtain ⟨v, hv⟩ : ∃ v, v = u * 4294967296 + L1 := ⟨_, rfl⟩
  have hv1 : v < 4299262263296 := by omega
  have E11 : (u : Int) * 4294967296 + (L1 : Int) = (v : Int) := by omega
  have HV : Hid (v = u * 4294967296 + L1) := Lib.hid hv
  have hq0 : v / y1 ≤ 2002 := by
    have : v / y1 ≤ v / 2147483648 := Nat.div_le_div_left y1b (by omega)
    omega
  have hr0 : v / y1 * y1 + v % y1 = v := by rw [Nat.mul_comm]; exact Nat.div_add_mod v y1
  have hr1 : v % y1 < y1 := Nat.mod_lt _ (by omega)
  have hvN : N = v * 4294967296 + L0 := by rw [HN.out]; have := HL.out; omega
  have hgf : N / Y ≤ v / y1 := guess_first HY.out hvN L0b (by omega)
  have E12 : (v : Int) / (y1 : Int) = ((v / y1 : Nat) : Int) := by simp
  have E13 : IntKind.u64.wrap (((v / y1 : Nat) : Int) * (y1 : Int)) = ((v / y1 * y1 : Nat) : Int) := by
    rw [← u64n (v / y1 * y1) (by have := Nat.le_add_right (v / y1 * y1) (v % y1); omega)]
    congr 1
  have E14 : (v : Int) - ((v / y1 * y1 : Nat) : Int) = ((v % y1 : Nat) : Int) := by
    generalize v / y1 * y1 = t at *
    omega
  have HG : Hid (v / y1 * y1 + v % y1 = v ∧ v % y1 < y1 ∧ v / y1 ≤ 2002 ∧ N / Y ≤ v / y1) := Lib.hid ⟨hr0, hr1, hq0, hgf⟩
  clear hv hr0 hgf
  obtain ⟨t, ht⟩ : ∃ t, v / y1 * y1 = t := ⟨_, rfl⟩
  rw [ht] at E13 E14 HG
  have HT := Lib.hid ht
  clear ht
  generalize v / y1 = q at *
  generalize v % y1 = r at *
  obtain ⟨VW, QW, E15, E15b, E16, E17⟩ := last_rest (q := N / Y) hvN L0b rfl (by omega) sb2
  have E18 : ((N % Y : Nat) : Int) / 2 ^ s = ((N % Y / 2 ^ s : Nat) : Int) := by simp
  have hRY : N % Y ≤ 18446744073709551615 := Nat.le_trans (Nat.le_of_lt (Nat.mod_lt _ (by omega))) sb2
  have HR : Hid (N % Y / 2 ^ s ≤ 18446744073709551615) := Lib.hid (Nat.le_trans (Nat.div_le_self _ _) hRY)
  have hvN' := Lib.hid hvN
  clear hvN HN
  generalize N % Y / 2 ^ s = F at *
  generalize N % Y = R at *
  obtain ⟨q', hq'⟩ : ∃ q', N / Y = q' := ⟨_, rfl⟩
  rw [hq'] at E16 HG ⊢
  have HQ := Lib.hid hq'
  clear hq'
  go_enter Tryd.func41, Tryd.ntmps41
  go_wp2_with fail
  refine Calls.mono (HC.out _) ?_
  rintro e w3 ⟨rfl, rfl⟩
  go_wp2_with fail
  go_loop [15, 16] (fun a b => a = .int .u64 0 ∧ b = .int .u64 u) (fun _ _ => 0)
  case atStart => exact ⟨rfl, rfl⟩
  case round =>
    obtain ⟨rfl, rfl⟩ := hrel
    have hx : ¬ (4294967296 * (u : Int) + (L1 : Int) < 0) := by omega
    go_wp2_with fail
    clear E13 E14 hx
    go_loop [18, 16] (fun a b => ∃ q r : Nat, a = .int .u64 q ∧ b = .int .u64 r ∧ q * y1 + r = v ∧ r < 4294967296 ∧ q ≤ 2002 ∧ q' ≤ q) (fun a _ => (intOf a).toNat)
    case atStart => exact ⟨q, r, rfl, rfl, by rw [HT.out]; exact HG.out.1, by have := HG.out.2.1; omega, HG.out.2.2.1, HG.out.2.2.2⟩
    case round =>
      clear HG HT hr1 hq0 E10 E11 E12
      obtain ⟨q, r, rfl, rfl, hi1, hr, hq2, hi2⟩ := hrel
      have HI1 := Lib.hid hi1
      clear hi1
      obtain ⟨p, hp⟩ : ∃ p, q * y0 = p := ⟨_, rfl⟩
      have hp1 : p < 18446744073709551616 := by
        have : q * y0 ≤ 2002 * y0 := Nat.mul_le_mul_right _ hq2
        omega
      have EP : IntKind.u64.wrap ((q : Int) * (y0 : Int)) = (p : Int) := by
        rw [← u64n p (by omega), ← hp]
        congr 1
      have HP := Lib.hid hp
      clear hp
      obtain ⟨g, hg⟩ : ∃ g, g = 4294967296 * r + L0 := ⟨_, rfl⟩
      have EG : 4294967296 * (r : Int) + (L0 : Int) = (g : Int) := by omega
      obtain ⟨r', hr'⟩ : ∃ r', r' = r + y1 := ⟨_, rfl⟩
      have ER : (r : Int) + (y1 : Int) = (r' : Int) := by omega
      have i6 : 0 ≤ (g : Int) ∧ (g : Int) ≤ 18446744073709551615 := by omega
      have i7 : 0 ≤ (r' : Int) ∧ (r' : Int) ≤ 18446744073709551615 := by omega
      have i1 : 0 ≤ (p : Int) ∧ (p : Int) ≤ 18446744073709551615 := by omega
      have i2 : 0 ≤ (r : Int) ∧ (r : Int) ≤ 4294967295 := by omega
      have i3 : 0 ≤ (q : Int) ∧ (q : Int) ≤ 2002 := by omega
      have i4 : 0 ≤ (y1 : Int) ∧ (y1 : Int) ≤ 4294967295 := by omega
      have i5 : 0 ≤ (L0 : Int) ∧ (L0 : Int) ≤ 4294967295 := by omega
      have HH : Hid (r < 4294967296 ∧ q ≤ 2002 ∧ q' ≤ q ∧ 2147483648 ≤ y1 ∧ y1 < 4294967296 ∧ y0 < 4294967296 ∧ L0 < 4294967296) := Lib.hid ⟨hr, hq2, hi2, y1b, y1c, y0b, L0b⟩
      have k1 : decide ((4294967296 : Int) ≤ (q : Int)) = false := by simp; omega
      have k2 : decide (4294967296 ≤ q) = false := by simp; omega
      by_cases h7 : 4294967296 * r + L0 < p
      · obtain ⟨g1, g2, g3⟩ := guess_down HI1.out HY.out hvN'.out (by rw [HP.out]; exact h7) (by rw [HQ.out]; exact hi2) (by omega)
        rw [HQ.out] at g2
        rw [← hr'] at g3
        have G3 := Lib.hid g3
        clear g3
        have j1 : (g : Int) < p := by omega
        by_cases h8 : r + y1 < 4294967296
        · have j2 : (r' : Int) < 4294967296 := by omega
          have k3 : decide ((4294967296 : Int) ≤ (r' : Int)) = false := by simp; omega
          have k4 : decide (4294967296 ≤ r') = false := by simp; omega
          have HH2 := Lib.hid (show 1 ≤ q ∧ q' ≤ q - 1 ∧ r' < 4294967296 from ⟨g1, g2, by omega⟩)
          have g1' : 1 ≤ (q : Int) := by omega
          clear hr hq2 hi2 y1b y1c y0b L0b hp1 sb1 h7 hg hr' h8 g1 g2
          go_wp2_with fail
          go_round
          case rel => exact ⟨q - 1, r', by have := HH2.out; go_num, by go_num, G3.out, HH2.out.2.2, by have := HH.out; omega, HH2.out.2.1⟩
          case measure => have := HH2.out; simp [intOf]; omega
        · have h9 : 4294967296 * r' + L0 ≥ (q - 1) * y0 := by
            have : (q - 1) * y0 ≤ 2002 * y0 := Nat.mul_le_mul_right _ (by omega)
            omega
          have g4 : q - 1 = q' := by rw [← HQ.out]; exact guess_stop G3.out HY.out hvN'.out h9 (by rw [HQ.out]; exact g2) (by omega)
          clear h9
          have g5 : (q : Int) - 1 = (q' : Int) := by omega
          have g1' : 1 ≤ (q : Int) := by omega
          clear g4
          have j2 : ¬ (r' : Int) < 4294967296 := by omega
          have k3 : decide ((4294967296 : Int) ≤ (r' : Int)) = true := by simp; omega
          have k4 : decide (4294967296 ≤ r') = true := by simp; omega
          clear hr hq2 hi2 y1b y1c y0b L0b hp1 sb1 h7 hg hr' h8 g1 g2
          go_wp2_with fail
          go_ret2
          exact ⟨rfl, rfl⟩
      · have g4 : q = q' := by rw [← HQ.out]; exact guess_stop HI1.out HY.out hvN'.out (by rw [HP.out]; omega) (by rw [HQ.out]; exact hi2) (by omega)
        subst g4
        have j1 : ¬ (g : Int) < p := by omega
        clear hr hq2 hi2 y1b y1c y0b L0b hp1 sb1 h7 hg hr'
        go_wp2_with fail
        go_ret2
        exact ⟨rfl, rfl⟩
end Go.Proofs.YtkfajeicbkeigaaDoor
