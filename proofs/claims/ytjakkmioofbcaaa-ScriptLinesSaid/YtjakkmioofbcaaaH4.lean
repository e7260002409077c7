/- The walk over the law of lines that are parsed. -/
import Derived.Test.YtjakkmioofbcaaaH3
namespace Go.Proofs.Ytjakkmioofbcaaa
open Go.RowKit
theorem sameB_self (s : St) : sameB s s = true := (sameB_iff s s).2 rfl
theorem fresh_range (w : World) (cs : List Value) (t : TypeId) : ∀ W, Below (w.heap.size + 1) (w.alloc (.cells cs.toArray t)) W → W.rangeAt w.heap.size 0 cs := fun _ hb => range_of_row ((hb.block w.heap.size (by omega)).trans (heap_alloc_new w _))
theorem parse_long {l : List UInt8} (h : 65536 < l.length) : parseS l = zSt ∧ parseE l = 2 := by unfold parseS parseE; rw [if_pos h, if_pos h]; exact ⟨rfl, rfl⟩

set_option maxRecDepth 100000 in
set_option maxHeartbeats 4000000 in
theorem parses3_long (l : List UInt8) (w : World) (hlg : Lg w) (hl : l.length ≤ maxLen) (h1 : 65536 < l.length) :
    Calls Try.prog 3 #[.string (str l)] w fun e w' => e = .returned (.bool true) ∧ Below w.heap.size w w' := by
  unfold maxLen at hl
  have hsz : (str l).size = l.length := str_size l
  have HE : Hid (∃ l2 : List UInt8, l2 = l.take 70000) := Lib.hid ⟨_, rfl⟩
  obtain ⟨l2, hl2⟩ := HE.out
  have h2 : 65536 < l2.length := by rw [hl2]; simp; omega
  have h3 : l2.length ≤ 70000 := by rw [hl2]; simp; omega
  have HP : Hid (Calls Try.prog 5 #[.string (str l2)] w fun e w' => GiveSt zSt e w' (.int .i64 2) ∧ Below w.heap.size w w') := Lib.hid (by
    have := parse5 l2 (by omega) w hlg
    rw [(parse_long h2).1, (parse_long h2).2] at this
    exact this)
  have hsz2 : (str l2).size = l2.length := str_size l2
  have HL2 := Lib.hid hl2
  clear hl2 HE
  by_cases h7 : 70000 < l.length
  case' pos =>
    have hx : (str l).extract 0 70000 = str l2 := by rw [str_extract, HL2.out]; rfl
  case' neg =>
    obtain rfl : l2 = l := by rw [HL2.out, List.take_of_length_le (by omega)]
  all_goals
    clear HL2
    go_enter Try.func3, Try.ntmps3
    go_wp2_with fail
    refine Calls.mono HP.out ?_
    rintro e w1 ⟨⟨A, cap, hk, hf, rfl⟩, hb1⟩
    have HB1 := Lib.hid hb1
    have HSM : Hid (∀ W, Below w1.heap.size w1 W → Calls Try.prog 6 #[.agg (zSt.L (.slice A zSt.kp.length cap)).toArray, .agg #[.int .i64 0, .int .i64 0, .string ⟨#[]⟩, .string ⟨#[]⟩, .int .i64 0, .slice none 0 0, .int .i64 0, .int .i64 0, .int .i64 0, .int .i64 0, .int .i64 0, .int .i64 0, .int .i64 0, .int .i64 0, .int .i64 0, .int .i64 0, .int .i64 0, .int .i64 0, .int .i64 0]] W fun e w' => e = .returned (.bool true) ∧ Below W.heap.size W w') := Lib.hid (fun W hb => by
      have := rsame6 zSt zSt A none cap 0 W (hk.below hb) (Kp.nil _) (by decide) (by decide)
      rw [sameB_self] at this
      exact this)
    have HEL : Hid (∃ L, zSt.L (.slice A zSt.kp.length cap) = L) := Lib.hid ⟨_, rfl⟩
    obtain ⟨L, hL⟩ := HEL.out
    have HIL : Hid ((Try.prog.info? 30).map (·.size) = some L.length) := Lib.hid (by rw [← hL]; exact info30)
    have HIL2 : Hid ((Try.prog.info? 30).map (·.size) = some L.toArray.size) := Lib.hid (by rw [← hL]; exact info30)
    have HOS : Hid ((#[.int .i64 0, .int .i64 0, .string ⟨#[]⟩, .string ⟨#[]⟩, .int .i64 0, .slice none 0 0, .int .i64 0, .int .i64 0, .int .i64 0, .int .i64 0, .int .i64 0, .int .i64 0, .int .i64 0, .int .i64 0, .int .i64 0, .int .i64 0, .int .i64 0, .int .i64 0, .int .i64 0] : Array Value).size = L.toArray.size) := Lib.hid (by rw [← hL]; rfl)
    have HOL : Hid (L.toArray.all (·.oneCell') = true) := Lib.hid (by rw [← hL]; exact stL_one _ _ _ _ _ _ _ _ _)
    rw [hL] at HSM ⊢
    clear hL HEL hk hf hb1
    have HRW := Lib.hid (fresh_range w1 L 30)
    have HRL := Lib.hid (HRW.out _ (Below.refl _ _))
    have HB2 : Hid (Below w.heap.size w (w1.alloc (.cells L.toArray 30))) := Lib.hid (HB1.out.alloc (HB1.out.size) _)
    have HB21 : Hid (Below w1.heap.size w1 (w1.alloc (.cells L.toArray 30))) := Lib.hid ((Below.refl _ _).alloc (Nat.le_refl _) _)
    go_wp2_with (first
      | ((with_reducible refine wpList_store_new (op := ⟨none, _, _, _, _, _⟩) rfl 30 (.tmp 3) (.tmp 17) rfl w1.heap.size _ L.toArray rfl ?_ ?_ HIL2.out HOS.out HOL.out ?_); rfl; rfl)
      | ((with_reducible refine wpList_load_midg (op := ⟨some 22, _, _, _, _, _⟩) ?_ 30 (.tmp 3) rfl w1.heap.size 0 ?_ L _ HRL.out Try.underlying30 rfl HIL.out ?_); kernel_rfl; rfl)
      | (go_at_call 6; (with_reducible refine (HSM.out _ HB21.out).mono ?_); rintro e w3 ⟨rfl, hb3⟩; have HB3 : Hid (Below w.heap.size w w3) := Lib.hid (HB2.out.trans (hb3.mono HB2.out.size)); clear hb3)
      | (go_at_call 7; (with_reducible refine (awake7 _).mono ?_); rintro e w4 ⟨rfl, hb4⟩; have HB4 : Hid (Below w.heap.size w w4) := Lib.hid (HB3.out.trans (hb4.mono HB3.out.size)); clear hb4))
    go_ret
    exact ⟨rfl, HB4.out⟩

set_option maxRecDepth 100000 in
set_option maxHeartbeats 4000000 in
theorem parses3_none (l : List UInt8) (w : World) (hlg : Lg w) (h1 : l.length ≤ 65536) (hp : parseP l = none) :
    Calls Try.prog 3 #[.string (str l)] w fun e w' => e = .returned (.bool true) ∧ Below w.heap.size w w' := by
  have hsz : (str l).size = l.length := str_size l
  have h65 : ¬ 65536 < l.length := by omega
  have h70 : ¬ 70000 < l.length := by omega
  have HP : Hid (Calls Try.prog 5 #[.string (str l)] w fun e w' => GiveSt zSt e w' (.int .i64 300) ∧ Below w.heap.size w w') := Lib.hid (by
    have := parse5 l (by omega) w hlg
    rw [parseS, parseE, if_neg h65, if_neg h65, hp] at this
    exact this)
  have HR : Hid (∀ W, Calls Try.prog 8 #[.string (str l)] W fun e w' => GiveSt zSt e w' (.bool false) ∧ Below W.heap.size W w') := Lib.hid (fun W => by
    have := rparse8 l (by omega) W
    rw [parse_both, hp] at this
    exact this)
  have HLV : Hid (∃ a b, lineV zSt = .tuple #[.string a, .int .i64 b]) := Lib.hid ⟨_, _, rfl⟩
  obtain ⟨la, lb, hlv⟩ := HLV.out
  have HLV := Lib.hid hlv
  clear hlv
  clear hp
  go_enter Try.func3, Try.ntmps3
  go_wp2_with fail
  refine Calls.mono HP.out ?_
  rintro e w1 ⟨⟨A, cap, hk, hf, rfl⟩, hb1⟩
  have HB1 := Lib.hid hb1
  have HK1 := Lib.hid hk
  have HF1 := Lib.hid hf
  have HLN : Hid (∀ W, Below w1.heap.size w1 W → Calls Try.prog 9 #[.agg (zSt.L (.slice A zSt.kp.length cap)).toArray] W fun e w' => e = .returned (lineV zSt) ∧ Below W.heap.size W w') := Lib.hid (fun W hb => line9 zSt A cap W (HK1.out.below hb) HF1.out)
  rw [HLV.out] at HLN
  have HSM : Hid (∀ W B cb, Below w1.heap.size w1 W → Kp W (.slice B zSt.kp.length cb) zSt.kp → Calls Try.prog 6 #[.agg (zSt.L (.slice A zSt.kp.length cap)).toArray, .agg (zSt.L (.slice B zSt.kp.length cb)).toArray] W fun e w' => e = .returned (.bool true) ∧ Below W.heap.size W w') := Lib.hid (fun W B cb hb hkb => by
    have := rsame6 zSt zSt A B cap cb W (HK1.out.below hb) hkb (by have := HF1.out.2.2; omega) (by have := HF1.out.2.2; omega)
    rw [sameB_self] at this
    exact this)
  have HEL : Hid (∃ L, zSt.L (.slice A zSt.kp.length cap) = L) := Lib.hid ⟨_, rfl⟩
  obtain ⟨L, hL⟩ := HEL.out
  have HIL : Hid ((Try.prog.info? 30).map (·.size) = some L.length) := Lib.hid (by rw [← hL]; exact info30)
  have HIL2 : Hid ((Try.prog.info? 30).map (·.size) = some L.toArray.size) := Lib.hid (by rw [← hL]; exact info30)
  have HOS : Hid ((#[.int .i64 0, .int .i64 0, .string ⟨#[]⟩, .string ⟨#[]⟩, .int .i64 0, .slice none 0 0, .int .i64 0, .int .i64 0, .int .i64 0, .int .i64 0, .int .i64 0, .int .i64 0, .int .i64 0, .int .i64 0, .int .i64 0, .int .i64 0, .int .i64 0, .int .i64 0, .int .i64 0] : Array Value).size = L.toArray.size) := Lib.hid (by rw [← hL]; rfl)
  have HOL : Hid (L.toArray.all (·.oneCell') = true) := Lib.hid (by rw [← hL]; exact stL_one _ _ _ _ _ _ _ _ _)
  rw [hL] at HLN HSM ⊢
  clear hL HEL hk hf hb1
  have HRW := Lib.hid (fresh_range w1 L 30)
  have HB2 : Hid (Below w.heap.size w (w1.alloc (.cells L.toArray 30))) := Lib.hid (HB1.out.alloc (HB1.out.size) _)
  have HB21 : Hid (Below w1.heap.size w1 (w1.alloc (.cells L.toArray 30))) := Lib.hid ((Below.refl _ _).alloc (Nat.le_refl _) _)
  go_wp2_with ((with_reducible refine wpList_store_new (op := ⟨none, _, _, _, _, _⟩) rfl 30 (.tmp 3) (.tmp 17) rfl w1.heap.size _ L.toArray rfl ?_ ?_ HIL2.out HOS.out HOL.out ?_); rfl; rfl)
  refine Calls.mono (HR.out _) ?_
  rintro e w3 ⟨⟨B, cb, hk3, hf3, rfl⟩, hb3⟩
  have HK3 := Lib.hid hk3
  have HB3 : Hid (Below (w1.heap.size + 1) (w1.alloc (.cells L.toArray 30)) w3) := Lib.hid (hb3.mono (by simp))
  have HB31 : Hid (Below w1.heap.size w1 w3) := Lib.hid (HB21.out.trans (HB3.out.mono (by omega)))
  have HBX : Hid (Below w.heap.size w w3) := Lib.hid (HB1.out.trans (HB31.out.mono HB1.out.size))
  have HSX : Hid (∀ W, Below w3.heap.size w3 W → Calls Try.prog 6 #[.agg L.toArray, .agg (zSt.L (.slice B zSt.kp.length cb)).toArray] W fun e w' => e = .returned (.bool true) ∧ Below W.heap.size W w') := Lib.hid (fun W hb => HSM.out W B cb (HB31.out.trans (hb.mono HB31.out.size)) (HK3.out.below hb))
  have HEM : Hid (∃ M, zSt.L (.slice B zSt.kp.length cb) = M) := Lib.hid ⟨_, rfl⟩
  obtain ⟨M, hM⟩ := HEM.out
  have HIM : Hid ((Try.prog.info? 30).map (·.size) = some M.length) := Lib.hid (by rw [← hM]; exact info30)
  have HIM2 : Hid ((Try.prog.info? 30).map (·.size) = some M.toArray.size) := Lib.hid (by rw [← hM]; exact info30)
  have HOSM : Hid ((#[.int .i64 0, .int .i64 0, .string ⟨#[]⟩, .string ⟨#[]⟩, .int .i64 0, .slice none 0 0, .int .i64 0, .int .i64 0, .int .i64 0, .int .i64 0, .int .i64 0, .int .i64 0, .int .i64 0, .int .i64 0, .int .i64 0, .int .i64 0, .int .i64 0, .int .i64 0, .int .i64 0] : Array Value).size = M.toArray.size) := Lib.hid (by rw [← hM]; rfl)
  have HOM : Hid (M.toArray.all (·.oneCell') = true) := Lib.hid (by rw [← hM]; exact stL_one _ _ _ _ _ _ _ _ _)
  rw [hM] at HSX ⊢
  clear hM HEM hk3 hf3 hb3
  have HB4 : Hid (Below w3.heap.size w3 (w3.alloc (.cells M.toArray 30))) := Lib.hid ((Below.refl _ _).alloc (Nat.le_refl _) _)
  have HRL := Lib.hid (HRW.out _ (HB3.out.trans (HB4.out.mono (by have := HB3.out.size; simp at this; omega))))
  have HRM := Lib.hid (fresh_range w3 M 30 _ (Below.refl _ _))
  go_wp2_with (first
    | ((with_reducible refine wpList_store_new (op := ⟨none, _, _, _, _, _⟩) rfl 30 (.tmp 5) (.tmp 35) rfl w3.heap.size _ M.toArray rfl ?_ ?_ HIM2.out HOSM.out HOM.out ?_); rfl; rfl)
    | ((with_reducible refine wpList_load_midg (op := ⟨some 37, _, _, _, _, _⟩) ?_ 30 (.tmp 3) rfl w1.heap.size 0 ?_ L _ HRL.out Try.underlying30 rfl HIL.out ?_); kernel_rfl; rfl)
    | ((with_reducible refine wpList_load_midg (op := ⟨some 38, _, _, _, _, _⟩) ?_ 30 (.tmp 5) rfl w3.heap.size 0 ?_ M _ HRM.out Try.underlying30 rfl HIM.out ?_); kernel_rfl; rfl)
    | (go_at_call 6; (with_reducible refine (HSX.out _ HB4.out).mono ?_); rintro e w5 ⟨rfl, hb5⟩; have HB5 : Hid (Below w3.heap.size w3 w5) := Lib.hid (HB4.out.trans (hb5.mono HB4.out.size)); clear hb5)
    | (go_at_call 7; (with_reducible refine (awake7 _).mono ?_); rintro e w6 ⟨rfl, hb6⟩; have HB6 : Hid (Below w3.heap.size w3 w6) := Lib.hid (HB5.out.trans (hb6.mono HB5.out.size)); have HB61 : Hid (Below w1.heap.size w1 w6) := Lib.hid (HB31.out.trans (HB6.out.mono HB31.out.size)); have HR6 := Lib.hid (HRW.out w6 (HB3.out.trans (HB6.out.mono (by have := HB3.out.size; simp at this; omega)))); clear hb6)
    | ((with_reducible refine wpList_load_midg (op := ⟨some 60, _, _, _, _, _⟩) ?_ 30 (.tmp 3) rfl w1.heap.size 0 ?_ L _ HR6.out Try.underlying30 rfl HIL.out ?_); kernel_rfl; rfl)
    | (go_at_call 9; (with_reducible refine (HLN.out _ HB61.out).mono ?_); rintro e w7 ⟨rfl, hb7⟩; have HB7 : Hid (Below w.heap.size w w7) := Lib.hid (HB1.out.trans ((HB61.out.trans (hb7.mono HB61.out.size)).mono HB1.out.size)); clear hb7))
  go_ret
  exact ⟨rfl, HB7.out⟩
set_option maxRecDepth 100000 in
set_option maxHeartbeats 4000000 in
theorem parses3_some (l : List UInt8) (s : St) (w : World) (hlg : Lg w) (h1 : l.length ≤ 65536) (hp : parseP l = some s) :
    Calls Try.prog 3 #[.string (str l)] w fun e w' => e = .returned (.bool true) ∧ Below w.heap.size w w' := by
  have hsz : (str l).size = l.length := str_size l
  have h65 : ¬ 65536 < l.length := by omega
  have h70 : ¬ 70000 < l.length := by omega
  have HP : Hid (Calls Try.prog 5 #[.string (str l)] w fun e w' => GiveSt s e w' (.int .i64 0) ∧ Below w.heap.size w w') := Lib.hid (by
    have := parse5 l (by omega) w hlg
    rw [parseS, parseE, if_neg h65, if_neg h65, hp] at this
    exact this)
  have HR : Hid (∀ W, Calls Try.prog 8 #[.string (str l)] W fun e w' => GiveSt s e w' (.bool true) ∧ Below W.heap.size W w') := Lib.hid (fun W => by
    have := rparse8 l (by omega) W
    rw [parse_both, hp] at this
    exact this)
  have HLV : Hid (lineV s = .tuple #[.string (str l), .int .i64 0]) := Lib.hid (by
    obtain ⟨hm, hl⟩ := parse_line hp
    rw [lineV, hm, hl]
    rfl)
  have hll : ((str l).toList == (str l).toList) = true := by simp
  clear hp
  go_enter Try.func3, Try.ntmps3
  go_wp2_with fail
  refine Calls.mono HP.out ?_
  rintro e w1 ⟨⟨A, cap, hk, hf, rfl⟩, hb1⟩
  have HB1 := Lib.hid hb1
  have HK1 := Lib.hid hk
  have HF1 := Lib.hid hf
  have HLN : Hid (∀ W, Below w1.heap.size w1 W → Calls Try.prog 9 #[.agg (s.L (.slice A s.kp.length cap)).toArray] W fun e w' => e = .returned (lineV s) ∧ Below W.heap.size W w') := Lib.hid (fun W hb => line9 s A cap W (HK1.out.below hb) HF1.out)
  rw [HLV.out] at HLN
  have HSM : Hid (∀ W B cb, Below w1.heap.size w1 W → Kp W (.slice B s.kp.length cb) s.kp → Calls Try.prog 6 #[.agg (s.L (.slice A s.kp.length cap)).toArray, .agg (s.L (.slice B s.kp.length cb)).toArray] W fun e w' => e = .returned (.bool true) ∧ Below W.heap.size W w') := Lib.hid (fun W B cb hb hkb => by
    have := rsame6 s s A B cap cb W (HK1.out.below hb) hkb (by have := HF1.out.2.2; omega) (by have := HF1.out.2.2; omega)
    rw [sameB_self] at this
    exact this)
  have HEL : Hid (∃ L, s.L (.slice A s.kp.length cap) = L) := Lib.hid ⟨_, rfl⟩
  obtain ⟨L, hL⟩ := HEL.out
  have HIL : Hid ((Try.prog.info? 30).map (·.size) = some L.length) := Lib.hid (by rw [← hL]; exact info30)
  have HIL2 : Hid ((Try.prog.info? 30).map (·.size) = some L.toArray.size) := Lib.hid (by rw [← hL]; exact info30)
  have HOS : Hid ((#[.int .i64 0, .int .i64 0, .string ⟨#[]⟩, .string ⟨#[]⟩, .int .i64 0, .slice none 0 0, .int .i64 0, .int .i64 0, .int .i64 0, .int .i64 0, .int .i64 0, .int .i64 0, .int .i64 0, .int .i64 0, .int .i64 0, .int .i64 0, .int .i64 0, .int .i64 0, .int .i64 0] : Array Value).size = L.toArray.size) := Lib.hid (by rw [← hL]; rfl)
  have HOL : Hid (L.toArray.all (·.oneCell') = true) := Lib.hid (by rw [← hL]; exact stL_one _ _ _ _ _ _ _ _ _)
  rw [hL] at HLN HSM ⊢
  clear hL HEL hk hf hb1
  have HRW := Lib.hid (fresh_range w1 L 30)
  have HB2 : Hid (Below w.heap.size w (w1.alloc (.cells L.toArray 30))) := Lib.hid (HB1.out.alloc (HB1.out.size) _)
  have HB21 : Hid (Below w1.heap.size w1 (w1.alloc (.cells L.toArray 30))) := Lib.hid ((Below.refl _ _).alloc (Nat.le_refl _) _)
  go_wp2_with ((with_reducible refine wpList_store_new (op := ⟨none, _, _, _, _, _⟩) rfl 30 (.tmp 3) (.tmp 17) rfl w1.heap.size _ L.toArray rfl ?_ ?_ HIL2.out HOS.out HOL.out ?_); rfl; rfl)
  refine Calls.mono (HR.out _) ?_
  rintro e w3 ⟨⟨B, cb, hk3, hf3, rfl⟩, hb3⟩
  have HK3 := Lib.hid hk3
  have HB3 : Hid (Below (w1.heap.size + 1) (w1.alloc (.cells L.toArray 30)) w3) := Lib.hid (hb3.mono (by simp))
  have HB31 : Hid (Below w1.heap.size w1 w3) := Lib.hid (HB21.out.trans (HB3.out.mono (by omega)))
  have HBX : Hid (Below w.heap.size w w3) := Lib.hid (HB1.out.trans (HB31.out.mono HB1.out.size))
  have HSX : Hid (∀ W, Below w3.heap.size w3 W → Calls Try.prog 6 #[.agg L.toArray, .agg (s.L (.slice B s.kp.length cb)).toArray] W fun e w' => e = .returned (.bool true) ∧ Below W.heap.size W w') := Lib.hid (fun W hb => HSM.out W B cb (HB31.out.trans (hb.mono HB31.out.size)) (HK3.out.below hb))
  have HEM : Hid (∃ M, s.L (.slice B s.kp.length cb) = M) := Lib.hid ⟨_, rfl⟩
  obtain ⟨M, hM⟩ := HEM.out
  have HIM : Hid ((Try.prog.info? 30).map (·.size) = some M.length) := Lib.hid (by rw [← hM]; exact info30)
  have HIM2 : Hid ((Try.prog.info? 30).map (·.size) = some M.toArray.size) := Lib.hid (by rw [← hM]; exact info30)
  have HOSM : Hid ((#[.int .i64 0, .int .i64 0, .string ⟨#[]⟩, .string ⟨#[]⟩, .int .i64 0, .slice none 0 0, .int .i64 0, .int .i64 0, .int .i64 0, .int .i64 0, .int .i64 0, .int .i64 0, .int .i64 0, .int .i64 0, .int .i64 0, .int .i64 0, .int .i64 0, .int .i64 0, .int .i64 0] : Array Value).size = M.toArray.size) := Lib.hid (by rw [← hM]; rfl)
  have HOM : Hid (M.toArray.all (·.oneCell') = true) := Lib.hid (by rw [← hM]; exact stL_one _ _ _ _ _ _ _ _ _)
  rw [hM] at HSX ⊢
  clear hM HEM hk3 hf3 hb3
  have HB4 : Hid (Below w3.heap.size w3 (w3.alloc (.cells M.toArray 30))) := Lib.hid ((Below.refl _ _).alloc (Nat.le_refl _) _)
  have HRL := Lib.hid (HRW.out _ (HB3.out.trans (HB4.out.mono (by have := HB3.out.size; simp at this; omega))))
  have HRM := Lib.hid (fresh_range w3 M 30 _ (Below.refl _ _))
  go_wp2_with (first
    | ((with_reducible refine wpList_store_new (op := ⟨none, _, _, _, _, _⟩) rfl 30 (.tmp 5) (.tmp 35) rfl w3.heap.size _ M.toArray rfl ?_ ?_ HIM2.out HOSM.out HOM.out ?_); rfl; rfl)
    | ((with_reducible refine wpList_load_midg (op := ⟨some 37, _, _, _, _, _⟩) ?_ 30 (.tmp 3) rfl w1.heap.size 0 ?_ L _ HRL.out Try.underlying30 rfl HIL.out ?_); kernel_rfl; rfl)
    | ((with_reducible refine wpList_load_midg (op := ⟨some 38, _, _, _, _, _⟩) ?_ 30 (.tmp 5) rfl w3.heap.size 0 ?_ M _ HRM.out Try.underlying30 rfl HIM.out ?_); kernel_rfl; rfl)
    | (go_at_call 6; (with_reducible refine (HSX.out _ HB4.out).mono ?_); rintro e w5 ⟨rfl, hb5⟩; have HB5 : Hid (Below w3.heap.size w3 w5) := Lib.hid (HB4.out.trans (hb5.mono HB4.out.size)); clear hb5)
    | (go_at_call 7; (with_reducible refine (awake7 _).mono ?_); rintro e w6 ⟨rfl, hb6⟩; have HB6 : Hid (Below w3.heap.size w3 w6) := Lib.hid (HB5.out.trans (hb6.mono HB5.out.size)); have HB61 : Hid (Below w1.heap.size w1 w6) := Lib.hid (HB31.out.trans (HB6.out.mono HB31.out.size)); have HR6 := Lib.hid (HRW.out w6 (HB3.out.trans (HB6.out.mono (by have := HB3.out.size; simp at this; omega)))); clear hb6)
    | ((with_reducible refine wpList_load_midg (op := ⟨some 60, _, _, _, _, _⟩) ?_ 30 (.tmp 3) rfl w1.heap.size 0 ?_ L _ HR6.out Try.underlying30 rfl HIL.out ?_); kernel_rfl; rfl)
    | (go_at_call 9; (with_reducible refine (HLN.out _ HB61.out).mono ?_); rintro e w7 ⟨rfl, hb7⟩; have HB7 : Hid (Below w.heap.size w w7) := Lib.hid (HB1.out.trans ((HB61.out.trans (hb7.mono HB61.out.size)).mono HB1.out.size)); clear hb7))
  go_ret
  exact ⟨rfl, HB7.out⟩
theorem parses3 (l : List UInt8) (w : World) (hlg : Lg w) (hl : l.length ≤ maxLen) : Calls Try.prog 3 #[.string (str l)] w fun e w' => e = .returned (.bool true) ∧ Below w.heap.size w w' := by
  by_cases h : 65536 < l.length
  · exact parses3_long l w hlg hl h
  · cases hp : parseP l with
    | none => exact parses3_none l w hlg (by omega) hp
    | some s => exact parses3_some l s w hlg (by omega) hp
end Go.Proofs.Ytjakkmioofbcaaa
