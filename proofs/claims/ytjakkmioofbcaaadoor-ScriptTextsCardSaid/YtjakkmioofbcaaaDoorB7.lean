/- The walk over line. -/
import Derived.Test.YtjakkmioofbcaaaDoorB6
namespace Go.Proofs.YtjakkmioofbcaaaDoor
open Go.RowKit
def callL (op : Int) (nm dt : List UInt8) : List UInt8 := wordL op ++ (if op = 2 then 32 :: dig dt else if op = 1 ∨ op = 5 ∨ op = 6 then 32 :: dig nm else [])
def fuseW : List UInt8 := [102, 117, 115, 101]
def powerW : List UInt8 := [112, 111, 119, 101, 114]
def confW : List UInt8 := [99, 111, 110, 102]
def lineL (s : St) : List UInt8 :=
  if s.k = 1 then callL s.op s.nm s.dt
  else if s.k = 2 then fuseW ++ 32 :: digs s.n.toNat
  else if s.k = 3 then powerW ++ 32 :: tru s.kp
  else confW ++ 32 :: joinL (setL s.c)
theorem dig_len (l : List UInt8) : (dig l).length ≤ 2 * l.length + 1 := by
  unfold dig
  split
  · simp
  · rw [digGo_len]; omega
theorem tru_len (l : List Bool) : (tru l).length ≤ l.length + 1 := by
  unfold tru
  split
  · simp
  · simp [truGo]
theorem wordL_len (op : Int) : (wordL op).length ≤ 7 := by
  unfold wordL
  repeat' split
  all_goals simp
theorem size_ok (a b : List UInt8) (h : a.length + b.length ≤ 9223372036854775807) : ¬ 9223372036854775807 < (str a).size + (str b).size := by
  rw [str_size, str_size]; omega
theorem cat1 (x : List UInt8) : (⟨#[32]⟩ : ByteArray) ++ str x = str (32 :: x) := str_append [32] x
theorem cat2 (a x : List UInt8) : str a ++ str x = str (a ++ x) := str_append a x
def Fits (s : St) : Prop := s.nm.length ≤ 100000 ∧ s.dt.length ≤ 100000 ∧ s.kp.length ≤ 100000
set_option maxRecDepth 100000 in
set_option maxHeartbeats 4000000 in
theorem line22 (s : St) (A : Option Addr) (cap : Nat) (w : World) (hk : Kp w (.slice A s.kp.length cap) s.kp) (hf : Fits s) (h1 : 1 ≤ s.k ∧ s.k ≤ 4) (h2 : s.k = 2 → 0 ≤ s.n ∧ s.n ≤ 2147483647) (h4 : s.k = 4 → ∀ i, 0 ≤ s.c i ∧ s.c i ≤ 2147483647) :
    Calls Tryd.prog 31 #[.agg (s.A (.slice A s.kp.length cap))] w fun e w' => e = .returned (.string (str (lineL s))) ∧ Below w.heap.size w w' := by
  obtain ⟨k, op, nm, dt, n, kp, c⟩ := s
  simp only [St.A, stA, Fits] at *
  obtain ⟨f1, f2, f3⟩ := hf
  have HB0 : Hid (Below w.heap.size w (w.alloc (.cells (stA k op nm dt n (.slice A kp.length cap) c) 44))) := Lib.hid ((Below.refl _ _).alloc (Nat.le_refl _) _)
  have HKP := Lib.hid (hk.below HB0.out)
  have HW := Lib.hid (word13 op (w.alloc (.cells (stA k op nm dt n (.slice A kp.length cap) c) 44)))
  simp only [stA] at *
  generalize hW1 : (w.alloc (.cells #[.int .i64 k, .int .i64 op, .string (str nm), .string (str dt), .int .i64 n, .slice A kp.length cap, .int .i64 (c 0), .int .i64 (c 1), .int .i64 (c 2), .int .i64 (c 3), .int .i64 (c 4), .int .i64 (c 5), .int .i64 (c 6), .int .i64 (c 7), .int .i64 (c 8), .int .i64 (c 9), .int .i64 (c 10), .int .i64 (c 11), .int .i64 (c 12)] 44)) = w1 at HKP
  have HW1 := Lib.hid hW1
  clear hW1 hk
  have hc : k = 1 ∨ k = 2 ∨ k = 3 ∨ k = 4 := by omega
  clear h1
  rcases hc with rfl | rfl | rfl | rfl
  · have e0 : lineL ⟨1, op, nm, dt, n, kp, c⟩ = callL op nm dt := rfl
    rw [e0]
    clear e0 h2 h4
    by_cases o2 : op = 2
    · subst o2
      have HCL : Hid (wordL 2 ++ 32 :: dig dt = callL 2 nm dt) := Lib.hid rfl
      have hs1 := size_ok [32] (dig dt) (by have := dig_len dt; simp; omega)
      have hs2 := size_ok (wordL 2) (32 :: dig dt) (by have := dig_len dt; have := wordL_len 2; simp; omega)
      have q1 := cat1 (dig dt)
      go_enter Tryd.func31, Tryd.ntmps31
      go_wp2_with fail
      refine Calls.mono HW.out ?_
      rintro e w2 ⟨rfl, rfl⟩
      go_wp2_with fail
      refine Calls.mono (digits46 dt (by omega) _) ?_
      rintro e w2 ⟨rfl, hb⟩
      go_wp2
      go_ret
      exact ⟨by rw [← HCL.out, cat2]; rfl, HB0.out.trans (hb.mono HB0.out.size)⟩
    · by_cases o1 : op = 1 ∨ op = 5 ∨ op = 6
      · have HCL : Hid (wordL op ++ 32 :: dig nm = callL op nm dt) := Lib.hid (by rw [callL, if_neg o2, if_pos o1])
        clear o2
        rcases o1 with rfl | rfl | rfl
        · have hs1 := size_ok [32] (dig nm) (by have := dig_len nm; simp; omega)
          have hs2 := size_ok (wordL 1) (32 :: dig nm) (by have := dig_len nm; have := wordL_len 1; simp; omega)
          have q1 := cat1 (dig nm)
          go_enter Tryd.func31, Tryd.ntmps31
          go_wp2_with fail
          refine Calls.mono HW.out ?_
          rintro e w2 ⟨rfl, rfl⟩
          go_wp2_with fail
          refine Calls.mono (digits46 nm (by omega) _) ?_
          rintro e w2 ⟨rfl, hb⟩
          go_wp2
          go_ret
          exact ⟨by rw [← HCL.out, cat2]; rfl, HB0.out.trans (hb.mono HB0.out.size)⟩
        · have hs1 := size_ok [32] (dig nm) (by have := dig_len nm; simp; omega)
          have hs2 := size_ok (wordL 5) (32 :: dig nm) (by have := dig_len nm; have := wordL_len 5; simp; omega)
          have q1 := cat1 (dig nm)
          go_enter Tryd.func31, Tryd.ntmps31
          go_wp2_with fail
          refine Calls.mono HW.out ?_
          rintro e w2 ⟨rfl, rfl⟩
          go_wp2_with fail
          refine Calls.mono (digits46 nm (by omega) _) ?_
          rintro e w2 ⟨rfl, hb⟩
          go_wp2
          go_ret
          exact ⟨by rw [← HCL.out, cat2]; rfl, HB0.out.trans (hb.mono HB0.out.size)⟩
        · have hs1 := size_ok [32] (dig nm) (by have := dig_len nm; simp; omega)
          have hs2 := size_ok (wordL 6) (32 :: dig nm) (by have := dig_len nm; have := wordL_len 6; simp; omega)
          have q1 := cat1 (dig nm)
          go_enter Tryd.func31, Tryd.ntmps31
          go_wp2_with fail
          refine Calls.mono HW.out ?_
          rintro e w2 ⟨rfl, rfl⟩
          go_wp2_with fail
          refine Calls.mono (digits46 nm (by omega) _) ?_
          rintro e w2 ⟨rfl, hb⟩
          go_wp2
          go_ret
          exact ⟨by rw [← HCL.out, cat2]; rfl, HB0.out.trans (hb.mono HB0.out.size)⟩
      · have HCL : Hid (wordL op = callL op nm dt) := Lib.hid (by rw [callL, if_neg o2, if_neg o1, List.append_nil])
        have o3 : op ≠ 1 := fun e => o1 (.inl e)
        have o5 : op ≠ 5 := fun e => o1 (.inr (.inl e))
        have o6 : op ≠ 6 := fun e => o1 (.inr (.inr e))
        clear o1
        go_enter Tryd.func31, Tryd.ntmps31
        go_wp2_with fail
        refine Calls.mono HW.out ?_
        rintro e w2 ⟨rfl, rfl⟩
        go_wp2
        go_ret
        exact ⟨by rw [← HCL.out]; rfl, HB0.out⟩
  · obtain ⟨n0, n1⟩ := h2 rfl
    clear h4
    have HN := Lib.hid (number44i n n0 n1)
    clear h2
    have hs1 := size_ok (fuseW ++ [32]) (digs n.toNat) (by have := digs_len10 n.toNat (by omega); simp [fuseW]; omega)
    go_enter Tryd.func31, Tryd.ntmps31
    go_wp2_with fail
    refine Calls.mono HW.out ?_
    rintro e w2 ⟨rfl, rfl⟩
    go_wp2_with fail
    refine Calls.mono (HN.out _) ?_
    rintro e w2 ⟨rfl, hb⟩
    go_wp2
    go_ret
    subst hb
    exact ⟨by rw [show (⟨#[102, 117, 115, 101, 32]⟩ : ByteArray) = str (fuseW ++ [32]) from rfl, cat2]; simp [lineL], HB0.out⟩
  · clear h2 h4
    have hs1 := size_ok (powerW ++ [32]) (tru kp) (by have := tru_len kp; simp [powerW]; omega)
    go_enter Tryd.func31, Tryd.ntmps31
    go_wp2_with fail
    refine Calls.mono HW.out ?_
    rintro e w2 ⟨rfl, rfl⟩
    go_wp2_with fail
    refine Calls.mono (truths31 _ kp (by omega) _ (by first | exact HKP.out | (rw [HW1.out]; exact HKP.out))) ?_
    rintro e w2 ⟨rfl, hb⟩
    go_wp2
    go_ret
    exact ⟨by rw [show (⟨#[112, 111, 119, 101, 114, 32]⟩ : ByteArray) = str (powerW ++ [32]) from rfl, cat2]; simp [lineL], HB0.out.trans (hb.mono HB0.out.size)⟩
  · have h4' := h4 rfl
    clear h2 h4
    have HS := Lib.hid (settings45 c h4')
    have hs1 := size_ok (confW ++ [32]) (joinL (setL c)) (by have := setL_small c h4'; simp [confW]; omega)
    go_enter Tryd.func31, Tryd.ntmps31
    go_wp2_with fail
    refine Calls.mono HW.out ?_
    rintro e w2 ⟨rfl, rfl⟩
    go_wp2_with fail
    refine Calls.mono (HS.out _) ?_
    rintro e w2 ⟨rfl, hb⟩
    go_wp2
    go_ret
    exact ⟨by rw [show (⟨#[99, 111, 110, 102, 32]⟩ : ByteArray) = str (confW ++ [32]) from rfl, cat2]; simp [lineL], HB0.out.trans (hb.mono HB0.out.size)⟩
end Go.Proofs.YtjakkmioofbcaaaDoor
