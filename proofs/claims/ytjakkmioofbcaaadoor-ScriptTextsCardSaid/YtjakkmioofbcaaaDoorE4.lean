/- The walk over the reference's guess. -/
import Derived.Test.YtjakkmioofbcaaaDoorE3
namespace Go.Proofs.YtjakkmioofbcaaaDoor
open Go.RowKit
def foundAt (x : List UInt8) : Nat → Int
  | 0 => 0
  | k + 1 => if 1 ≤ k ∧ wordL k = x then (k : Int) else foundAt x k
theorem found_word : ∀ k : Fin 9, foundAt (wordL k.1) 9 = k.1 := by decide
theorem found_none {x : List UInt8} (h : ∀ j : Nat, 1 ≤ j → j ≤ 8 → wordL j ≠ x) : ∀ k : Nat, k ≤ 9 → foundAt x k = 0
  | 0, _ => rfl
  | k + 1, hk => by
    rw [foundAt, if_neg (fun q => h k q.1 (by omega) q.2)]
    exact found_none h k (by omega)
theorem found_op (x : List UInt8) : foundAt x 9 = opOf x := by
  by_cases h : ∃ k : Nat, 1 ≤ k ∧ k ≤ 8 ∧ wordL k = x
  · obtain ⟨k, h1, h8, rfl⟩ := h
    have a := found_word ⟨k, by omega⟩
    have b := opOf_word ⟨k, by omega⟩
    simp only at a b
    rw [a, b]
  · have h' : ∀ j : Nat, 1 ≤ j → j ≤ 8 → wordL j ≠ x := fun j a b e => h ⟨j, a, b, e⟩
    rw [found_none h' 9 (by omega), opOf_none h']
def kOf (m : Int) : Int := if m = 0 then 0 else 1
def guessP (ws : List (List UInt8)) : St :=
  if opOf (ws.getD 0 []) ≠ 0 then
    (if ws.length = 2 then (if opOf (ws.getD 0 []) = 2 then ⟨1, 2, [], rtxtGo (ws.getD 1 []), 0, [], c0⟩ else ⟨1, opOf (ws.getD 0 []), rtxtGo (ws.getD 1 []), [], 0, [], c0⟩)
    else ⟨1, opOf (ws.getD 0 []), [], [], 0, [], c0⟩)
  else if ws.getD 0 [] = fuseW ∧ ws.length = 2 then ⟨2, 0, [], [], sz (ws.getD 1 []), [], c0⟩
  else if ws.getD 0 [] = powerW ∧ ws.length = 2 then ⟨3, 0, [], [], 0, keepOf (ws.getD 1 []), c0⟩
  else if ws.getD 0 [] = confW ∧ ws.length = 14 then ⟨4, 0, [], [], 0, [], cfOf (szs ws.tail)⟩
  else zSt
theorem rtxt_len : ∀ (l : List UInt8), (rtxtGo l).length ≤ l.length
  | [] => by simp [rtxtGo]
  | [_] => by simp [rtxtGo]
  | a :: b :: r => by have := rtxt_len r; simp [rtxtGo]; omega
def Give1 (B : Nat) (s : St) (e : Ending) (w' : World) : Prop := ∃ (A : Option Addr) (cap : Nat), Kp w' (.slice A s.kp.length cap) s.kp ∧ (∀ a, A = some a → B ≤ a.block) ∧ Fits s ∧ e = .returned (.agg (s.L (.slice A s.kp.length cap)).toArray)
set_option maxRecDepth 100000 in
set_option maxHeartbeats 2000000 in
theorem rguess19 (v : Value) (ws : List (List UInt8)) (w : World) (hw : Ws w v ws) (h0 : ws ≠ []) (hx : ∀ x ∈ ws, x.length ≤ 100000) :
    Calls Tryd.prog 46 #[v] w fun e w' => Give1 w.heap.size (guessP ws) e w' ∧ Below w.heap.size w w' := by
  obtain ⟨b, o, cp, rfl, hlt, hcap, hc⟩ := hw.2 h0
  have HWS := Lib.hid hw
  have HC := Lib.hid hc
  have HX := Lib.hid hx
  have HLT := Lib.hid hlt
  have hlen : 0 < ws.length := List.length_pos_iff.2 h0
  have hlenI : (0 : Int) < (ws.length : Int) := by omega
  have HEX : Hid (∃ x, ws.getD 0 [] = x) := Lib.hid ⟨_, rfl⟩
  obtain ⟨x0, hx0⟩ := HEX.out
  have HCE0 : Hid (∀ W, Below w.heap.size w W → W.cell? ⟨b, o, none⟩ = some (.string (str x0))) := Lib.hid (fun W hb => by
    have := hc 0 hlen
    rw [hx0, Nat.add_zero] at this
    rw [hb.cell (p := ⟨b, o, none⟩) hlt]
    exact this)
  have HB2 : Hid (Below w.heap.size w ((w.alloc (.cells #[.int .i64 0, .int .i64 0, .string ⟨#[]⟩, .string ⟨#[]⟩, .int .i64 0, .slice none 0 0, .int .i64 0, .int .i64 0, .int .i64 0, .int .i64 0, .int .i64 0, .int .i64 0, .int .i64 0, .int .i64 0, .int .i64 0, .int .i64 0, .int .i64 0, .int .i64 0, .int .i64 0] 44)).alloc (.cells #[.int .i64 0, .int .i64 0, .string ⟨#[]⟩, .string ⟨#[]⟩, .int .i64 0, .slice none 0 0, .int .i64 0, .int .i64 0, .int .i64 0, .int .i64 0, .int .i64 0, .int .i64 0, .int .i64 0, .int .i64 0, .int .i64 0, .int .i64 0, .int .i64 0, .int .i64 0, .int .i64 0] 44))) := Lib.hid (((Below.refl _ _).alloc (Nat.le_refl _) _).alloc (by simp) _)
  have HROW0 : Hid (((w.alloc (.cells #[.int .i64 0, .int .i64 0, .string ⟨#[]⟩, .string ⟨#[]⟩, .int .i64 0, .slice none 0 0, .int .i64 0, .int .i64 0, .int .i64 0, .int .i64 0, .int .i64 0, .int .i64 0, .int .i64 0, .int .i64 0, .int .i64 0, .int .i64 0, .int .i64 0, .int .i64 0, .int .i64 0] 44)).alloc (.cells #[.int .i64 0, .int .i64 0, .string ⟨#[]⟩, .string ⟨#[]⟩, .int .i64 0, .slice none 0 0, .int .i64 0, .int .i64 0, .int .i64 0, .int .i64 0, .int .i64 0, .int .i64 0, .int .i64 0, .int .i64 0, .int .i64 0, .int .i64 0, .int .i64 0, .int .i64 0, .int .i64 0] 44)).heap[w.heap.size + 1]? = some (.cells (stL 0 0 [] [] 0 (.slice none 0 0) c0).toArray 44 (0, 0))) := Lib.hid (by have := heap_alloc_new (w.alloc (.cells #[.int .i64 0, .int .i64 0, .string ⟨#[]⟩, .string ⟨#[]⟩, .int .i64 0, .slice none 0 0, .int .i64 0, .int .i64 0, .int .i64 0, .int .i64 0, .int .i64 0, .int .i64 0, .int .i64 0, .int .i64 0, .int .i64 0, .int .i64 0, .int .i64 0, .int .i64 0, .int .i64 0] 44)) (.cells (stL 0 0 [] [] 0 (.slice none 0 0) c0).toArray 44); rwa [World.size_alloc] at this)
  have HRES0 : Hid (((w.alloc (.cells #[.int .i64 0, .int .i64 0, .string ⟨#[]⟩, .string ⟨#[]⟩, .int .i64 0, .slice none 0 0, .int .i64 0, .int .i64 0, .int .i64 0, .int .i64 0, .int .i64 0, .int .i64 0, .int .i64 0, .int .i64 0, .int .i64 0, .int .i64 0, .int .i64 0, .int .i64 0, .int .i64 0] 44)).alloc (.cells #[.int .i64 0, .int .i64 0, .string ⟨#[]⟩, .string ⟨#[]⟩, .int .i64 0, .slice none 0 0, .int .i64 0, .int .i64 0, .int .i64 0, .int .i64 0, .int .i64 0, .int .i64 0, .int .i64 0, .int .i64 0, .int .i64 0, .int .i64 0, .int .i64 0, .int .i64 0, .int .i64 0] 44)).heap[w.heap.size]? = some (.cells #[.int .i64 0, .int .i64 0, .string ⟨#[]⟩, .string ⟨#[]⟩, .int .i64 0, .slice none 0 0, .int .i64 0, .int .i64 0, .int .i64 0, .int .i64 0, .int .i64 0, .int .i64 0, .int .i64 0, .int .i64 0, .int .i64 0, .int .i64 0, .int .i64 0, .int .i64 0, .int .i64 0] 44 (0, 0))) := Lib.hid ((Below.heap_alloc _ _ _ (by simp)).trans (heap_alloc_new w _))
  have HSZ0 : Hid (((w.alloc (.cells #[.int .i64 0, .int .i64 0, .string ⟨#[]⟩, .string ⟨#[]⟩, .int .i64 0, .slice none 0 0, .int .i64 0, .int .i64 0, .int .i64 0, .int .i64 0, .int .i64 0, .int .i64 0, .int .i64 0, .int .i64 0, .int .i64 0, .int .i64 0, .int .i64 0, .int .i64 0, .int .i64 0] 44)).alloc (.cells #[.int .i64 0, .int .i64 0, .string ⟨#[]⟩, .string ⟨#[]⟩, .int .i64 0, .slice none 0 0, .int .i64 0, .int .i64 0, .int .i64 0, .int .i64 0, .int .i64 0, .int .i64 0, .int .i64 0, .int .i64 0, .int .i64 0, .int .i64 0, .int .i64 0, .int .i64 0, .int .i64 0] 44)).heap.size = w.heap.size + 2) := Lib.hid (by simp)
  have HO0 : Hid ((#[.int .i64 0, .int .i64 0, .string ⟨#[]⟩, .string ⟨#[]⟩, .int .i64 0, .slice none 0 0, .int .i64 0, .int .i64 0, .int .i64 0, .int .i64 0, .int .i64 0, .int .i64 0, .int .i64 0, .int .i64 0, .int .i64 0, .int .i64 0, .int .i64 0, .int .i64 0, .int .i64 0] : Array Value).all (·.oneCell') = true) := Lib.hid (by simp [Value.oneCell'])
  have HIZ : Hid (∀ (k op : Int) (nm dt : List UInt8) (n : Int) (K : Value) (c : Fin 13 → Int), (Tryd.prog.info? 44).map (·.size) = some (stL k op nm dt n K c).toArray.size) := Lib.hid (fun _ _ _ _ _ _ _ => info30)
  have HOZ : Hid (∀ (k op : Int) (nm dt : List UInt8) (n : Int) (A : Option Addr) (q cc : Nat) (c : Fin 13 → Int), (stL k op nm dt n (.slice A q cc) c).toArray.all (·.oneCell') = true) := Lib.hid (fun _ _ _ _ _ _ _ _ _ => stL_one _ _ _ _ _ _ _ _ _)
  have HGP : Hid (guessP ws = (if opOf x0 ≠ 0 then (if ws.length = 2 then (if opOf x0 = 2 then ⟨1, 2, [], rtxtGo (ws.getD 1 []), 0, [], c0⟩ else ⟨1, opOf x0, rtxtGo (ws.getD 1 []), [], 0, [], c0⟩) else ⟨1, opOf x0, [], [], 0, [], c0⟩)
    else if x0 = fuseW ∧ ws.length = 2 then ⟨2, 0, [], [], sz (ws.getD 1 []), [], c0⟩ else if x0 = powerW ∧ ws.length = 2 then ⟨3, 0, [], [], 0, keepOf (ws.getD 1 []), c0⟩
    else if x0 = confW ∧ ws.length = 14 then ⟨4, 0, [], [], 0, [], cfOf (szs ws.tail)⟩ else zSt)) := Lib.hid (by rw [← hx0]; rfl)
  generalize guessP ws = GP at *
  clear hc hx hw hx0 HEX hlt
  go_enter Tryd.func46, Tryd.ntmps46
  go_wp2_with (first
    | ((with_reducible refine wpList_store_new (op := ⟨none, _, _, _, _, _⟩) rfl 44 (.tmp 3) (.tmp 6) rfl (w.heap.size + 1) _ #[.int .i64 0, .int .i64 0, .string ⟨#[]⟩, .string ⟨#[]⟩, .int .i64 0, .slice none 0 0, .int .i64 0, .int .i64 0, .int .i64 0, .int .i64 0, .int .i64 0, .int .i64 0, .int .i64 0, .int .i64 0, .int .i64 0, .int .i64 0, .int .i64 0, .int .i64 0, .int .i64 0] ?_ ?_ ?_ ?_ ?_ HO0.out ?_); exact (World.size_alloc _ _).symm; rfl; rfl; exact info30; rfl))
  generalize hW2 : ((w.alloc (.cells #[.int .i64 0, .int .i64 0, .string ⟨#[]⟩, .string ⟨#[]⟩, .int .i64 0, .slice none 0 0, .int .i64 0, .int .i64 0, .int .i64 0, .int .i64 0, .int .i64 0, .int .i64 0, .int .i64 0, .int .i64 0, .int .i64 0, .int .i64 0, .int .i64 0, .int .i64 0, .int .i64 0] 44)).alloc (.cells #[.int .i64 0, .int .i64 0, .string ⟨#[]⟩, .string ⟨#[]⟩, .int .i64 0, .slice none 0 0, .int .i64 0, .int .i64 0, .int .i64 0, .int .i64 0, .int .i64 0, .int .i64 0, .int .i64 0, .int .i64 0, .int .i64 0, .int .i64 0, .int .i64 0, .int .i64 0, .int .i64 0] 44)) = w2 at *
  clear hW2
  go_loopg [4] 8 (fun gk i wr => ∃ k : Nat, 1 ≤ k ∧ k ≤ 9 ∧ gk = 9 - k ∧ i = .int .i64 k ∧ wr.heap[w.heap.size + 1]? = some (.cells (stL (kOf (foundAt x0 k)) (foundAt x0 k) [] [] 0 (.slice none 0 0) c0).toArray 44 (0, 0)) ∧ wr.heap[w.heap.size]? = some (.cells #[.int .i64 0, .int .i64 0, .string ⟨#[]⟩, .string ⟨#[]⟩, .int .i64 0, .slice none 0 0, .int .i64 0, .int .i64 0, .int .i64 0, .int .i64 0, .int .i64 0, .int .i64 0, .int .i64 0, .int .i64 0, .int .i64 0, .int .i64 0, .int .i64 0, .int .i64 0, .int .i64 0] 44 (0, 0)) ∧ Below w.heap.size w wr ∧ w.heap.size + 2 ≤ wr.heap.size)
  case atStart =>
    have e : foundAt x0 1 = 0 := by rw [foundAt, if_neg (by omega)]; rfl
    refine ⟨1, by omega, by omega, rfl, rfl, ?_, HRES0.out, HB2.out, Nat.le_of_eq HSZ0.out.symm⟩
    rw [e]
    exact HROW0.out
  case round =>
    obtain ⟨k, hk1, hk9, hgk, rfl, hrow, hres, hb, hsz⟩ := hrel
    have HK := Lib.hid hgk
    have HROW := Lib.hid hrow
    have HRES := Lib.hid hres
    have HB := Lib.hid hb
    have HSZ := Lib.hid hsz
    have hcell := HCE0.out wr hb
    clear hgk hrow hres hb hsz
    by_cases hk8 : k = 9
    case neg =>
      have hdl : decide ((k : Int) ≤ 8) = true := by simp; omega
      have HW := Lib.hid (rword14 (k : Int) wr.drew)
      have HHIT : Hid (wordL k = x0 → foundAt x0 (k + 1) = k) := Lib.hid (fun h => by rw [foundAt, if_pos ⟨hk1, h⟩])
      have HMISS : Hid (wordL k ≠ x0 → foundAt x0 (k + 1) = foundAt x0 k) := Lib.hid (fun h => by rw [foundAt, if_neg (fun q => h q.2)])
      have HKP : Hid (1 ≤ k ∧ k ≤ 8) := Lib.hid ⟨hk1, by omega⟩
      have hcellD : ∀ W, Below wr.heap.size wr W → W.cell? ⟨b, o, none⟩ = some (.string (str x0)) := fun W hb => HCE0.out W (HB.out.trans (hb.mono HB.out.size))
      have HCD := Lib.hid hcellD
      clear hcellD hk8
      generalize hfa : foundAt x0 k = fa at *
      clear hfa
      by_cases hm : wordL k = x0
      · have heq : ((str (wordL k)).toList == (str x0).toList) = true := by rw [str_beq]; simpa using hm
        have HF1 := Lib.hid (HHIT.out hm)
        have hkO : kOf (k : Int) = 1 := by unfold kOf; rw [if_neg (by omega)]
        have HKO := Lib.hid hkO
        clear hm hkO
        go_wp2_with fail
        go_region_with (first
          | (go_at_call 59; (with_reducible refine HW.out.mono ?_); rintro e w5 ⟨rfl, hb5⟩; have HB5 : Hid (Below wr.heap.size wr w5) := Lib.hid ((bdrew (Below.refl _ _)).trans hb5); have hcell5 := HCD.out w5 HB5.out; clear hb5))
        all_goals
          have HROW5 : Hid (w5.heap[w.heap.size + 1]? = some (.cells (stL (kOf fa) fa [] [] 0 (.slice none 0 0) c0).toArray 44 (0, 0))) := Lib.hid ((HB5.out.block (w.heap.size + 1) (by have := HSZ.out; omega)).trans HROW.out)
          have HRES5 : Hid (w5.heap[w.heap.size]? = some (.cells #[.int .i64 0, .int .i64 0, .string ⟨#[]⟩, .string ⟨#[]⟩, .int .i64 0, .slice none 0 0, .int .i64 0, .int .i64 0, .int .i64 0, .int .i64 0, .int .i64 0, .int .i64 0, .int .i64 0, .int .i64 0, .int .i64 0, .int .i64 0, .int .i64 0, .int .i64 0, .int .i64 0] 44 (0, 0))) := Lib.hid ((HB5.out.block w.heap.size (by have := HSZ.out; omega)).trans HRES.out)
          have HBW5 : Hid (Below w.heap.size w w5) := Lib.hid (HB.out.trans (HB5.out.mono HB.out.size))
          have HSZ5 : Hid (w.heap.size + 2 ≤ w5.heap.size) := Lib.hid (Nat.le_trans HSZ.out HB5.out.size)
          go_wp2_with (first
            | ((with_reducible refine wpList_store_row (o := ⟨none, _, _, _, _, _⟩) rfl 44 (.tmp 3) (.tmp 19) rfl (w.heap.size + 1) (stL 1 (k : Int) [] [] 0 (.slice none 0 0) c0).toArray ?_ ?_ 44 _ HROW5.out (HIZ.out _ _ _ _ _ _ _) rfl (HOZ.out _ _ _ _ _ _ _ _ _) ?_); rfl; rfl))
          go_roundg (9 - (k + 1))
          case measure => rw [HK.out]; have := HKP.out; omega
          case rel =>
            refine ⟨k + 1, by omega, by have := HKP.out; omega, rfl, by have := HKP.out; go_num, ?_, ?_, below_setRow HBW5.out (by omega) _, by simpa [World.setRow] using HSZ5.out⟩
            · rw [HF1.out, HKO.out]; exact setRow_heap _ _ _ _ _ _ HROW5.out
            · rw [setRow_other _ _ _ _ (by omega)]; exact HRES5.out
      · have heq : ((str (wordL k)).toList == (str x0).toList) = false := by rw [str_beq]; simpa using hm
        have HF1 := Lib.hid (HMISS.out hm)
        clear hm
        go_wp2_with fail
        go_region_with (first
          | (go_at_call 59; (with_reducible refine HW.out.mono ?_); rintro e w5 ⟨rfl, hb5⟩; have HB5 : Hid (Below wr.heap.size wr w5) := Lib.hid ((bdrew (Below.refl _ _)).trans hb5); have hcell5 := HCD.out w5 HB5.out; clear hb5))
        all_goals
          go_wp2
          go_roundg (9 - (k + 1))
          case measure => rw [HK.out]; have := HKP.out; omega
          case rel =>
            refine ⟨k + 1, by omega, by have := HKP.out; omega, rfl, by have := HKP.out; go_num, ?_, (HB5.out.block w.heap.size (by have := HSZ.out; omega)).trans HRES.out, HB.out.trans (HB5.out.mono HB.out.size), Nat.le_trans HSZ.out HB5.out.size⟩
            rw [HF1.out]
            exact (HB5.out.block (w.heap.size + 1) (by have := HSZ.out; omega)).trans HROW.out
    subst hk8
    rw [found_op] at HROW
    have hdl : decide (((9 : Nat) : Int) ≤ 8) = false := by decide
    by_cases hm : opOf x0 = 0
    case neg =>
      have hkO : kOf (opOf x0) = 1 := if_neg hm
      rw [hkO] at HROW
      have n1 : x0 ≠ fuseW := by rintro rfl; exact hm (by decide)
      have n2 : x0 ≠ powerW := by rintro rfl; exact hm (by decide)
      have n3 : x0 ≠ confW := by rintro rfl; exact hm (by decide)
      have t1 : ((str x0).toList == [102, 117, 115, 101]) = false := by rw [str_toList]; simpa [fuseW] using n1
      have t2 : ((str x0).toList == [112, 111, 119, 101, 114]) = false := by rw [str_toList]; simpa [powerW] using n2
      have t3 : ((str x0).toList == [99, 111, 110, 102]) = false := by rw [str_toList]; simpa [confW] using n3
      rw [if_pos hm] at HGP
      have hc0 : wr.cell? ⟨w.heap.size + 1, 0, none⟩ = some (.int .i64 1) := cell_of_row wr _ 0 _ 44 _ HROW.out
      have hc1 : wr.cell? ⟨w.heap.size + 1, 1, none⟩ = some (.int .i64 (opOf x0)) := cell_of_row wr _ 1 _ 44 _ HROW.out
      clear n1 n2 n3 hm hkO
      by_cases h2 : ws.length = 2
      case neg =>
        have hl2 : ((ws.length : Int) == 2) = false := by simp only [beq_eq_false_iff_ne]; omega
        rw [if_neg h2] at HGP
        have HGQ := HGP
        have HRW := HROW
        have HRS := HRES
        have HBW := HB
        clear h2
        generalize opOf x0 = m at *
        have HEL : Hid (∃ L, stL 1 m [] [] 0 (.slice none 0 0) c0 = L) := Lib.hid ⟨_, rfl⟩
        obtain ⟨L, hL⟩ := HEL.out
        have HLL : Hid (stL 1 m [] [] 0 (.slice none 0 0) c0 = L) := Lib.hid hL
        have HIL : Hid ((Tryd.prog.info? 44).map (·.size) = some L.length) := Lib.hid (by rw [← hL]; exact info30)
        have HIL2 : Hid ((Tryd.prog.info? 44).map (·.size) = some L.toArray.size) := Lib.hid (by rw [← hL]; exact info30)
        have HOS : Hid ((#[.int .i64 0, .int .i64 0, .string ⟨#[]⟩, .string ⟨#[]⟩, .int .i64 0, .slice none 0 0, .int .i64 0, .int .i64 0, .int .i64 0, .int .i64 0, .int .i64 0, .int .i64 0, .int .i64 0, .int .i64 0, .int .i64 0, .int .i64 0, .int .i64 0, .int .i64 0, .int .i64 0] : Array Value).size = L.toArray.size) := Lib.hid (by rw [← hL]; rfl)
        have HOL : Hid (L.toArray.all (·.oneCell') = true) := Lib.hid (by rw [← hL]; exact stL_one _ _ _ _ _ _ _ _ _)
        clear hL HEL
        rw [HLL.out] at HRW
        go_wp2_with (first
          | ((with_reducible refine wpList_load_midg (op := ⟨some 107, _, _, _, _, _⟩) ?_ 44 (.tmp 3) rfl (w.heap.size + 1) 0 ?_ L _ (range_of_row HRW.out) Tryd.underlying44 rfl HIL.out ?_); kernel_rfl; rfl)
          | ((with_reducible refine wpList_store_row (o := ⟨none, _, _, _, _, _⟩) rfl 44 (.tmp 2) (.tmp 107) rfl w.heap.size L.toArray ?_ ?_ 44 _ HRS.out HIL2.out HOS.out HOL.out ?_); rfl; rfl))
        rw [HGQ.out]
        exact bodyPost_ret (results_cell_row rfl _ _ w.heap.size 44 L.toArray (0, 0) _ rfl (setRow_heap _ _ _ _ _ _ HRS.out) Tryd.underlying44 rfl HIL2.out) rfl ⟨⟨none, 0, Kp.nil _, noA, ⟨by simp, by simp, by simp⟩, by rw [← HLL.out]; rfl⟩, below_setRow HBW.out (Nat.le_refl _) _⟩
      have hl2 : ((ws.length : Int) == 2) = true := by simp only [beq_iff_eq]; omega
      have hi1 : (1 : Int) < (ws.length : Int) := by omega
      rw [if_pos h2] at HGP
      obtain ⟨x1, hx1⟩ : ∃ x, ws.getD 1 [] = x := ⟨_, rfl⟩
      have hcx : wr.cell? ⟨b, o + 1, none⟩ = some (.string (str x1)) := by rw [HB.out.cell (p := ⟨b, o + 1, none⟩) HLT.out]; have := HC.out 1 (by omega); rw [hx1] at this; exact this
      have hxl : x1.length ≤ 100000 := by have := HX.out (ws.getD 1 []) (by simp [List.getD, show 1 < ws.length by omega]); rw [hx1] at this; exact this
      have HTX := Lib.hid (rtext35 x1 (by omega) wr)
      have HTL := Lib.hid (Nat.le_trans (rtxt_len x1) hxl)
      rw [hx1] at HGP
      clear h2 hx1 hxl
      by_cases ho : opOf x0 = 2
      case pos =>
        have heo : (opOf x0 == 2) = true := by simpa using ho
        rw [if_pos ho] at HGP
        have HGQ := HGP
        have HO2 := Lib.hid ho
        rw [show (2 : Int) = opOf x0 from ho.symm] at HGQ
        clear ho
        generalize opOf x0 = m at *
        generalize rtxtGo x1 = tx at *
        have HEL : Hid (∃ L, stL 1 m [] tx 0 (.slice none 0 0) c0 = L) := Lib.hid ⟨_, rfl⟩
        obtain ⟨L, hL⟩ := HEL.out
        have HLL : Hid (stL 1 m [] tx 0 (.slice none 0 0) c0 = L) := Lib.hid hL
        have HIL : Hid ((Tryd.prog.info? 44).map (·.size) = some L.length) := Lib.hid (by rw [← hL]; exact info30)
        have HIL2 : Hid ((Tryd.prog.info? 44).map (·.size) = some L.toArray.size) := Lib.hid (by rw [← hL]; exact info30)
        have HOS : Hid ((#[.int .i64 0, .int .i64 0, .string ⟨#[]⟩, .string ⟨#[]⟩, .int .i64 0, .slice none 0 0, .int .i64 0, .int .i64 0, .int .i64 0, .int .i64 0, .int .i64 0, .int .i64 0, .int .i64 0, .int .i64 0, .int .i64 0, .int .i64 0, .int .i64 0, .int .i64 0, .int .i64 0] : Array Value).size = L.toArray.size) := Lib.hid (by rw [← hL]; rfl)
        have HOL : Hid (L.toArray.all (·.oneCell') = true) := Lib.hid (by rw [← hL]; exact stL_one _ _ _ _ _ _ _ _ _)
        clear hL HEL
        go_wp2_with (first
          | (go_at_call 71; (with_reducible refine HTX.out.mono ?_); rintro e w6 ⟨rfl, hb6⟩; have HB6 := Lib.hid hb6; have hrow6 := (hb6.block (w.heap.size + 1) (by have := HSZ.out; omega)).trans HROW.out; have HRW : Hid ((w6.setCell ⟨w.heap.size + 1, 3, none⟩ (.string (str tx))).heap[w.heap.size + 1]? = some (.cells L.toArray 44 (0, 0))) := Lib.hid (by rw [Go.heap_setCell_same _ _ _ _ _ _ hrow6, ← HLL.out]; rfl); have HRS : Hid ((w6.setCell ⟨w.heap.size + 1, 3, none⟩ (.string (str tx))).heap[w.heap.size]? = some (.cells #[.int .i64 0, .int .i64 0, .string ⟨#[]⟩, .string ⟨#[]⟩, .int .i64 0, .slice none 0 0, .int .i64 0, .int .i64 0, .int .i64 0, .int .i64 0, .int .i64 0, .int .i64 0, .int .i64 0, .int .i64 0, .int .i64 0, .int .i64 0, .int .i64 0, .int .i64 0, .int .i64 0] 44 (0, 0))) := Lib.hid ((heap_setCell_other _ _ _ _ (by show w.heap.size ≠ w.heap.size + 1; omega)).trans ((hb6.block w.heap.size (by have := HSZ.out; omega)).trans HRES.out)); have HBW : Hid (Below w.heap.size w (w6.setCell ⟨w.heap.size + 1, 3, none⟩ (.string (str tx)))) := Lib.hid ((HB.out.trans (hb6.mono HB.out.size)).setCell (by show w.heap.size ≤ w.heap.size + 1; omega) _); have hcw := HCE0.out _ HBW.out; have hcf := cell_of_row w6 _ 3 _ 44 _ hrow6; have hff := frozen_of_row w6 (w.heap.size + 1) 3 _ 44 hrow6; simp [stL] at hcf; clear hb6 hrow6)
          | ((with_reducible refine wpList_load_midg (op := ⟨some 107, _, _, _, _, _⟩) ?_ 44 (.tmp 3) rfl (w.heap.size + 1) 0 ?_ L _ (range_of_row HRW.out) Tryd.underlying44 rfl HIL.out ?_); kernel_rfl; rfl)
          | ((with_reducible refine wpList_store_row (o := ⟨none, _, _, _, _, _⟩) rfl 44 (.tmp 2) (.tmp 107) rfl w.heap.size L.toArray ?_ ?_ 44 _ HRS.out HIL2.out HOS.out HOL.out ?_); rfl; rfl))
        rw [HGQ.out]
        exact bodyPost_ret (results_cell_row rfl _ _ w.heap.size 44 L.toArray (0, 0) _ rfl (setRow_heap _ _ _ _ _ _ HRS.out) Tryd.underlying44 rfl HIL2.out) rfl ⟨⟨none, 0, Kp.nil _, noA, ⟨by simp, HTL.out, by simp⟩, by rw [← HLL.out]; rfl⟩, below_setRow HBW.out (Nat.le_refl _) _⟩
      have heo : (opOf x0 == 2) = false := by simpa using ho
      rw [if_neg ho] at HGP
      have HGQ := HGP
      clear ho
      generalize opOf x0 = m at *
      generalize rtxtGo x1 = tx at *
      have HEL : Hid (∃ L, stL 1 m tx [] 0 (.slice none 0 0) c0 = L) := Lib.hid ⟨_, rfl⟩
      obtain ⟨L, hL⟩ := HEL.out
      have HLL : Hid (stL 1 m tx [] 0 (.slice none 0 0) c0 = L) := Lib.hid hL
      have HIL : Hid ((Tryd.prog.info? 44).map (·.size) = some L.length) := Lib.hid (by rw [← hL]; exact info30)
      have HIL2 : Hid ((Tryd.prog.info? 44).map (·.size) = some L.toArray.size) := Lib.hid (by rw [← hL]; exact info30)
      have HOS : Hid ((#[.int .i64 0, .int .i64 0, .string ⟨#[]⟩, .string ⟨#[]⟩, .int .i64 0, .slice none 0 0, .int .i64 0, .int .i64 0, .int .i64 0, .int .i64 0, .int .i64 0, .int .i64 0, .int .i64 0, .int .i64 0, .int .i64 0, .int .i64 0, .int .i64 0, .int .i64 0, .int .i64 0] : Array Value).size = L.toArray.size) := Lib.hid (by rw [← hL]; rfl)
      have HOL : Hid (L.toArray.all (·.oneCell') = true) := Lib.hid (by rw [← hL]; exact stL_one _ _ _ _ _ _ _ _ _)
      clear hL HEL
      go_wp2_with (first
        | (go_at_call 71; (with_reducible refine HTX.out.mono ?_); rintro e w6 ⟨rfl, hb6⟩; have HB6 := Lib.hid hb6; have hrow6 := (hb6.block (w.heap.size + 1) (by have := HSZ.out; omega)).trans HROW.out; have HRW : Hid ((w6.setCell ⟨w.heap.size + 1, 2, none⟩ (.string (str tx))).heap[w.heap.size + 1]? = some (.cells L.toArray 44 (0, 0))) := Lib.hid (by rw [Go.heap_setCell_same _ _ _ _ _ _ hrow6, ← HLL.out]; rfl); have HRS : Hid ((w6.setCell ⟨w.heap.size + 1, 2, none⟩ (.string (str tx))).heap[w.heap.size]? = some (.cells #[.int .i64 0, .int .i64 0, .string ⟨#[]⟩, .string ⟨#[]⟩, .int .i64 0, .slice none 0 0, .int .i64 0, .int .i64 0, .int .i64 0, .int .i64 0, .int .i64 0, .int .i64 0, .int .i64 0, .int .i64 0, .int .i64 0, .int .i64 0, .int .i64 0, .int .i64 0, .int .i64 0] 44 (0, 0))) := Lib.hid ((heap_setCell_other _ _ _ _ (by show w.heap.size ≠ w.heap.size + 1; omega)).trans ((hb6.block w.heap.size (by have := HSZ.out; omega)).trans HRES.out)); have HBW : Hid (Below w.heap.size w (w6.setCell ⟨w.heap.size + 1, 2, none⟩ (.string (str tx)))) := Lib.hid ((HB.out.trans (hb6.mono HB.out.size)).setCell (by show w.heap.size ≤ w.heap.size + 1; omega) _); have hcw := HCE0.out _ HBW.out; have hcf := cell_of_row w6 _ 2 _ 44 _ hrow6; have hff := frozen_of_row w6 (w.heap.size + 1) 2 _ 44 hrow6; simp [stL] at hcf; clear hb6 hrow6)
        | ((with_reducible refine wpList_load_midg (op := ⟨some 107, _, _, _, _, _⟩) ?_ 44 (.tmp 3) rfl (w.heap.size + 1) 0 ?_ L _ (range_of_row HRW.out) Tryd.underlying44 rfl HIL.out ?_); kernel_rfl; rfl)
        | ((with_reducible refine wpList_store_row (o := ⟨none, _, _, _, _, _⟩) rfl 44 (.tmp 2) (.tmp 107) rfl w.heap.size L.toArray ?_ ?_ 44 _ HRS.out HIL2.out HOS.out HOL.out ?_); rfl; rfl))
      rw [HGQ.out]
      exact bodyPost_ret (results_cell_row rfl _ _ w.heap.size 44 L.toArray (0, 0) _ rfl (setRow_heap _ _ _ _ _ _ HRS.out) Tryd.underlying44 rfl HIL2.out) rfl ⟨⟨none, 0, Kp.nil _, noA, ⟨HTL.out, by simp, by simp⟩, by rw [← HLL.out]; rfl⟩, below_setRow HBW.out (Nat.le_refl _) _⟩
    rw [if_neg (fun q => q hm)] at HGP
    have hkO : kOf (opOf x0) = 0 := if_pos hm
    rw [hkO, hm] at HROW
    have hc0 : wr.cell? ⟨w.heap.size + 1, 0, none⟩ = some (.int .i64 0) := cell_of_row wr _ 0 _ 44 _ HROW.out
    clear hkO hm
    by_cases e1 : x0 = fuseW
    case pos =>
      subst e1
      have t1 : ((str fuseW).toList == [102, 117, 115, 101]) = true := by rw [str_toList]; rfl
      have t2 : ((str fuseW).toList == [112, 111, 119, 101, 114]) = false := by rw [str_toList]; rfl
      have t3 : ((str fuseW).toList == [99, 111, 110, 102]) = false := by rw [str_toList]; rfl
      by_cases h2 : ws.length = 2
      case neg =>
        have hl2 : ((ws.length : Int) == 2) = false := by simp only [beq_eq_false_iff_ne]; omega
        rw [if_neg (fun q => h2 q.2), if_neg (fun q => h2 q.2), if_neg (fun q => absurd q.1 (by decide))] at HGP
        clear h2
        have HGQ := HGP
        have HRW := HROW
        have HRS := HRES
        have HBW := HB
        have HEL : Hid (∃ L, stL 0 0 [] [] 0 (.slice none 0 0) c0 = L) := Lib.hid ⟨_, rfl⟩
        obtain ⟨L, hL⟩ := HEL.out
        have HLL : Hid (stL 0 0 [] [] 0 (.slice none 0 0) c0 = L) := Lib.hid hL
        have HIL : Hid ((Tryd.prog.info? 44).map (·.size) = some L.length) := Lib.hid (by rw [← hL]; exact info30)
        have HIL2 : Hid ((Tryd.prog.info? 44).map (·.size) = some L.toArray.size) := Lib.hid (by rw [← hL]; exact info30)
        have HOS : Hid ((#[.int .i64 0, .int .i64 0, .string ⟨#[]⟩, .string ⟨#[]⟩, .int .i64 0, .slice none 0 0, .int .i64 0, .int .i64 0, .int .i64 0, .int .i64 0, .int .i64 0, .int .i64 0, .int .i64 0, .int .i64 0, .int .i64 0, .int .i64 0, .int .i64 0, .int .i64 0, .int .i64 0] : Array Value).size = L.toArray.size) := Lib.hid (by rw [← hL]; rfl)
        have HOL : Hid (L.toArray.all (·.oneCell') = true) := Lib.hid (by rw [← hL]; exact stL_one _ _ _ _ _ _ _ _ _)
        clear hL HEL
        rw [HLL.out] at HRW
        go_wp2_with (first
          | ((with_reducible refine wpList_load_midg (op := ⟨some 107, _, _, _, _, _⟩) ?_ 44 (.tmp 3) rfl (w.heap.size + 1) 0 ?_ L _ (range_of_row HRW.out) Tryd.underlying44 rfl HIL.out ?_); kernel_rfl; rfl)
          | ((with_reducible refine wpList_store_row (o := ⟨none, _, _, _, _, _⟩) rfl 44 (.tmp 2) (.tmp 107) rfl w.heap.size L.toArray ?_ ?_ 44 _ HRS.out HIL2.out HOS.out HOL.out ?_); rfl; rfl))
        rw [HGQ.out]
        exact bodyPost_ret (results_cell_row rfl _ _ w.heap.size 44 L.toArray (0, 0) _ rfl (setRow_heap _ _ _ _ _ _ HRS.out) Tryd.underlying44 rfl HIL2.out) rfl ⟨⟨none, 0, Kp.nil _, noA, ⟨by simp [zSt], by simp [zSt], by simp [zSt]⟩, by rw [← HLL.out]; rfl⟩, below_setRow HBW.out (Nat.le_refl _) _⟩
      have hl2 : ((ws.length : Int) == 2) = true := by simp only [beq_iff_eq]; omega
      have hi1 : (1 : Int) < (ws.length : Int) := by omega
      obtain ⟨x1, hx1⟩ : ∃ x, ws.getD 1 [] = x := ⟨_, rfl⟩
      have hcx : wr.cell? ⟨b, o + 1, none⟩ = some (.string (str x1)) := by rw [HB.out.cell (p := ⟨b, o + 1, none⟩) HLT.out]; have := HC.out 1 (by omega); rw [hx1] at this; exact this
      have hxl : x1.length ≤ 100000 := by have := HX.out (ws.getD 1 []) (by simp [List.getD, show 1 < ws.length by omega]); rw [hx1] at this; exact this
      rw [hx1] at HGP
      rw [if_pos ⟨rfl, h2⟩] at HGP
      have HSZX := Lib.hid (rsize36 x1 (by omega) wr)
      generalize sz x1 = q at *
      clear h2 hx1 hxl
      have HGQ := HGP
      have HEL : Hid (∃ L, stL 2 0 [] [] q (.slice none 0 0) c0 = L) := Lib.hid ⟨_, rfl⟩
      obtain ⟨L, hL⟩ := HEL.out
      have HLL : Hid (stL 2 0 [] [] q (.slice none 0 0) c0 = L) := Lib.hid hL
      have HIL : Hid ((Tryd.prog.info? 44).map (·.size) = some L.length) := Lib.hid (by rw [← hL]; exact info30)
      have HIL2 : Hid ((Tryd.prog.info? 44).map (·.size) = some L.toArray.size) := Lib.hid (by rw [← hL]; exact info30)
      have HOS : Hid ((#[.int .i64 0, .int .i64 0, .string ⟨#[]⟩, .string ⟨#[]⟩, .int .i64 0, .slice none 0 0, .int .i64 0, .int .i64 0, .int .i64 0, .int .i64 0, .int .i64 0, .int .i64 0, .int .i64 0, .int .i64 0, .int .i64 0, .int .i64 0, .int .i64 0, .int .i64 0, .int .i64 0] : Array Value).size = L.toArray.size) := Lib.hid (by rw [← hL]; rfl)
      have HOL : Hid (L.toArray.all (·.oneCell') = true) := Lib.hid (by rw [← hL]; exact stL_one _ _ _ _ _ _ _ _ _)
      clear hL HEL
      have HRW : Hid ((wr.setRow (w.heap.size + 1) (stL 2 0 [] [] q (.slice none 0 0) c0).toArray).heap[w.heap.size + 1]? = some (.cells L.toArray 44 (0, 0))) := Lib.hid (by rw [← HLL.out]; exact setRow_heap _ _ _ _ _ _ HROW.out)
      have HRS : Hid ((wr.setRow (w.heap.size + 1) (stL 2 0 [] [] q (.slice none 0 0) c0).toArray).heap[w.heap.size]? = some (.cells #[.int .i64 0, .int .i64 0, .string ⟨#[]⟩, .string ⟨#[]⟩, .int .i64 0, .slice none 0 0, .int .i64 0, .int .i64 0, .int .i64 0, .int .i64 0, .int .i64 0, .int .i64 0, .int .i64 0, .int .i64 0, .int .i64 0, .int .i64 0, .int .i64 0, .int .i64 0, .int .i64 0] 44 (0, 0))) := Lib.hid (by rw [setRow_other _ _ _ _ (by omega)]; exact HRES.out)
      have HBW : Hid (Below w.heap.size w (wr.setRow (w.heap.size + 1) (stL 2 0 [] [] q (.slice none 0 0) c0).toArray)) := Lib.hid (below_setRow HB.out (by omega) _)
      have hcw := HCE0.out _ HBW.out
      go_wp2_with (first
        | (go_at_call 44; (with_reducible refine HSZX.out.mono ?_); rintro e w6 ⟨rfl, rfl⟩)
        | ((with_reducible refine wpList_store_row (o := ⟨none, _, _, _, _, _⟩) rfl 44 (.tmp 3) (.tmp 57) rfl (w.heap.size + 1) (stL 2 0 [] [] q (.slice none 0 0) c0).toArray ?_ ?_ 44 _ HROW.out (HIZ.out _ _ _ _ _ _ _) rfl (HOZ.out _ _ _ _ _ _ _ _ _) ?_); rfl; rfl)
        | ((with_reducible refine wpList_load_midg (op := ⟨some 107, _, _, _, _, _⟩) ?_ 44 (.tmp 3) rfl (w.heap.size + 1) 0 ?_ L _ (range_of_row HRW.out) Tryd.underlying44 rfl HIL.out ?_); kernel_rfl; rfl)
        | ((with_reducible refine wpList_store_row (o := ⟨none, _, _, _, _, _⟩) rfl 44 (.tmp 2) (.tmp 107) rfl w.heap.size L.toArray ?_ ?_ 44 _ HRS.out HIL2.out HOS.out HOL.out ?_); rfl; rfl))
      rw [HGQ.out]
      exact bodyPost_ret (results_cell_row rfl _ _ w.heap.size 44 L.toArray (0, 0) _ rfl (setRow_heap _ _ _ _ _ _ HRS.out) Tryd.underlying44 rfl HIL2.out) rfl ⟨⟨none, 0, Kp.nil _, noA, ⟨by simp, by simp, by simp⟩, by rw [← HLL.out]; rfl⟩, below_setRow HBW.out (Nat.le_refl _) _⟩
    rw [if_neg (fun q => e1 q.1)] at HGP
    by_cases e2 : x0 = powerW
    case pos =>
      subst e2
      have t1 : ((str powerW).toList == [102, 117, 115, 101]) = false := by rw [str_toList]; rfl
      have t2 : ((str powerW).toList == [112, 111, 119, 101, 114]) = true := by rw [str_toList]; rfl
      have t3 : ((str powerW).toList == [99, 111, 110, 102]) = false := by rw [str_toList]; rfl
      by_cases h2 : ws.length = 2
      case neg =>
        have hl2 : ((ws.length : Int) == 2) = false := by simp only [beq_eq_false_iff_ne]; omega
        rw [if_neg (fun q => h2 q.2), if_neg (fun q => absurd q.1 (by decide))] at HGP
        clear h2 e1
        have HGQ := HGP
        have HRW := HROW
        have HRS := HRES
        have HBW := HB
        have HEL : Hid (∃ L, stL 0 0 [] [] 0 (.slice none 0 0) c0 = L) := Lib.hid ⟨_, rfl⟩
        obtain ⟨L, hL⟩ := HEL.out
        have HLL : Hid (stL 0 0 [] [] 0 (.slice none 0 0) c0 = L) := Lib.hid hL
        have HIL : Hid ((Tryd.prog.info? 44).map (·.size) = some L.length) := Lib.hid (by rw [← hL]; exact info30)
        have HIL2 : Hid ((Tryd.prog.info? 44).map (·.size) = some L.toArray.size) := Lib.hid (by rw [← hL]; exact info30)
        have HOS : Hid ((#[.int .i64 0, .int .i64 0, .string ⟨#[]⟩, .string ⟨#[]⟩, .int .i64 0, .slice none 0 0, .int .i64 0, .int .i64 0, .int .i64 0, .int .i64 0, .int .i64 0, .int .i64 0, .int .i64 0, .int .i64 0, .int .i64 0, .int .i64 0, .int .i64 0, .int .i64 0, .int .i64 0] : Array Value).size = L.toArray.size) := Lib.hid (by rw [← hL]; rfl)
        have HOL : Hid (L.toArray.all (·.oneCell') = true) := Lib.hid (by rw [← hL]; exact stL_one _ _ _ _ _ _ _ _ _)
        clear hL HEL
        rw [HLL.out] at HRW
        go_wp2_with (first
          | ((with_reducible refine wpList_load_midg (op := ⟨some 107, _, _, _, _, _⟩) ?_ 44 (.tmp 3) rfl (w.heap.size + 1) 0 ?_ L _ (range_of_row HRW.out) Tryd.underlying44 rfl HIL.out ?_); kernel_rfl; rfl)
          | ((with_reducible refine wpList_store_row (o := ⟨none, _, _, _, _, _⟩) rfl 44 (.tmp 2) (.tmp 107) rfl w.heap.size L.toArray ?_ ?_ 44 _ HRS.out HIL2.out HOS.out HOL.out ?_); rfl; rfl))
        rw [HGQ.out]
        exact bodyPost_ret (results_cell_row rfl _ _ w.heap.size 44 L.toArray (0, 0) _ rfl (setRow_heap _ _ _ _ _ _ HRS.out) Tryd.underlying44 rfl HIL2.out) rfl ⟨⟨none, 0, Kp.nil _, noA, ⟨by simp [zSt], by simp [zSt], by simp [zSt]⟩, by rw [← HLL.out]; rfl⟩, below_setRow HBW.out (Nat.le_refl _) _⟩
      have hl2 : ((ws.length : Int) == 2) = true := by simp only [beq_iff_eq]; omega
      have hi1 : (1 : Int) < (ws.length : Int) := by omega
      obtain ⟨x1, hx1⟩ : ∃ x, ws.getD 1 [] = x := ⟨_, rfl⟩
      have hcx : wr.cell? ⟨b, o + 1, none⟩ = some (.string (str x1)) := by rw [HB.out.cell (p := ⟨b, o + 1, none⟩) HLT.out]; have := HC.out 1 (by omega); rw [hx1] at this; exact this
      have hxl : x1.length ≤ 100000 := by have := HX.out (ws.getD 1 []) (by simp [List.getD, show 1 < ws.length by omega]); rw [hx1] at this; exact this
      rw [hx1] at HGP
      rw [if_pos ⟨rfl, h2⟩] at HGP
      have HCE1 : Hid (∀ W, Below w.heap.size w W → W.cell? ⟨b, o + 1, none⟩ = some (.string (str x1))) := Lib.hid (fun W hb => by rw [hb.cell (p := ⟨b, o + 1, none⟩) HLT.out]; have := HC.out 1 (by omega); rw [hx1] at this; exact this)
      have HXL := Lib.hid hxl
      have HGQ := HGP
      have hsz := str_size x1
      clear h2 hx1 e1
      have HRW0 : Hid ((wr.setRow (w.heap.size + 1) (stL 3 0 [] [] 0 (.slice none 0 0) c0).toArray).heap[w.heap.size + 1]? = some (.cells (stL 3 0 [] [] 0 (.slice none 0 0) c0).toArray 44 (0, 0))) := Lib.hid (setRow_heap _ _ _ _ _ _ HROW.out)
      have HRS0 : Hid ((wr.setRow (w.heap.size + 1) (stL 3 0 [] [] 0 (.slice none 0 0) c0).toArray).heap[w.heap.size]? = some (.cells #[.int .i64 0, .int .i64 0, .string ⟨#[]⟩, .string ⟨#[]⟩, .int .i64 0, .slice none 0 0, .int .i64 0, .int .i64 0, .int .i64 0, .int .i64 0, .int .i64 0, .int .i64 0, .int .i64 0, .int .i64 0, .int .i64 0, .int .i64 0, .int .i64 0, .int .i64 0, .int .i64 0] 44 (0, 0))) := Lib.hid (by rw [setRow_other _ _ _ _ (by omega)]; exact HRES.out)
      have HBW0 : Hid (Below w.heap.size w (wr.setRow (w.heap.size + 1) (stL 3 0 [] [] 0 (.slice none 0 0) c0).toArray)) := Lib.hid (below_setRow HB.out (by omega) _)
      have HSZW : Hid (w.heap.size + 2 ≤ (wr.setRow (w.heap.size + 1) (stL 3 0 [] [] 0 (.slice none 0 0) c0).toArray).heap.size) := Lib.hid (by simpa [World.setRow] using HSZ.out)
      go_wp2_with (first
        | ((with_reducible refine wpList_store_row (o := ⟨none, _, _, _, _, _⟩) rfl 44 (.tmp 3) (.tmp 67) rfl (w.heap.size + 1) (stL 3 0 [] [] 0 (.slice none 0 0) c0).toArray ?_ ?_ 44 _ HROW.out (HIZ.out _ _ _ _ _ _ _) rfl (HOZ.out _ _ _ _ _ _ _ _ _) ?_); rfl; rfl))
      generalize wr.setRow (w.heap.size + 1) (stL 3 0 [] [] 0 (.slice none 0 0) c0).toArray = wq at *
      clear hc0 hcell hcx HROW HRES HB HSZ HGP HK
      go_loopg [5] x1.length (fun gk i wr => ∃ (k : Nat) (V : Value), k ≤ x1.length ∧ (x1 = [45] → k = 0) ∧ gk = x1.length - k ∧ i = .int .i64 k ∧ wr.heap[w.heap.size + 1]? = some (.cells (stL 3 0 [] [] 0 V c0).toArray 44 (0, 0)) ∧ wr.heap[w.heap.size]? = some (.cells #[.int .i64 0, .int .i64 0, .string ⟨#[]⟩, .string ⟨#[]⟩, .int .i64 0, .slice none 0 0, .int .i64 0, .int .i64 0, .int .i64 0, .int .i64 0, .int .i64 0, .int .i64 0, .int .i64 0, .int .i64 0, .int .i64 0, .int .i64 0, .int .i64 0, .int .i64 0, .int .i64 0] 44 (0, 0)) ∧ wr.ownsRow (w.heap.size + 2) 4 1 V k (boolsV ((keepOf x1).take k)) ∧ Below w.heap.size w wr ∧ w.heap.size + 2 ≤ wr.heap.size)
      case atStart => exact ⟨0, .slice none 0 0, Nat.zero_le _, fun _ => rfl, rfl, rfl, HRW0.out, HRS0.out, World.ownsRow_nil _ _ _ _, HBW0.out, HSZW.out⟩
      case round =>
        obtain ⟨k, V, hk, h45k, hgk, rfl, hrow, hres, hr, hb, hsz2⟩ := hrel
        obtain ⟨AA, ac, hv⟩ := own_slice hr
        subst hv
        have HK := Lib.hid hgk
        have HR := Lib.hid hr
        have HB := Lib.hid hb
        have HROW := Lib.hid hrow
        have HRES := Lib.hid hres
        have HSZ2 := Lib.hid hsz2
        have H45 := Lib.hid h45k
        have hc1 := HCE1.out wr hb
        have hcell := HCE0.out wr hb
        have hc5 : wr.cell? ⟨w.heap.size + 1, 5, none⟩ = some (.slice AA k ac) := cell_of_row wr _ 5 _ 44 _ hrow
        have hf5 : wr.frozen? ⟨w.heap.size + 1, 5, none⟩ = false := frozen_of_row wr _ 5 _ 44 hrow
        clear hgk hr hb hrow hres hsz2 h45k
        by_cases hgo : k < x1.length ∧ x1 ≠ [45]
        · obtain ⟨hkl, h45⟩ := hgo
          have h1 : (k : Int) < (x1.length : Int) := by omega
          have h1d : decide ((k : Int) < (x1.length : Int)) = true := by simpa using h1
          have t45 : ((str x1).toList == [45]) = false := by rw [str_toList]; simpa using h45
          have HKO : Hid (keepOf x1 = x1.map fun c => decide (c = 49)) := Lib.hid (if_neg h45)
          have H45N := Lib.hid h45
          clear h45
          have hg := str_get x1 k hkl (by rw [hsz]; exact hkl)
          have HT : Hid ((keepOf x1).take (k + 1) = (keepOf x1).take k ++ [decide ((x1[k]'hkl) = 49)]) := Lib.hid (by rw [HKO.out, List.take_succ_eq_append_getElem (by simpa using hkl)]; simp)
          obtain ⟨ch, hch⟩ : ∃ ch, x1[k]'hkl = ch := ⟨_, rfl⟩
          rw [hch] at hg HT
          clear hch
          have hcb : ((ch.toNat : Int) == 49) = decide (ch = 49) := by
            rw [Bool.eq_iff_iff, beq_iff_eq, decide_eq_true_eq]
            constructor
            · intro h; apply UInt8.toNat.inj; show ch.toNat = 49; omega
            · rintro rfl; rfl
          generalize decide (ch = 49) = tb at *
          have HR1 : Hid ((wr.drew.alloc (.cells #[.bool tb] 4)).ownsRow (w.heap.size + 2) 4 1 (.slice AA k ac) k (boolsV ((keepOf x1).take k))) := Lib.hid (World.ownsRow.alloc (w := wr.drew) HR.out _)
          obtain ⟨i0, hi, hz0, hz1, hz2⟩ := info_parts info4
          obtain ⟨v', w2, hrun, hown', hgrow, _, _⟩ := run_append_own_at (P := Tryd.prog) (wr.drew.alloc (.cells #[.bool tb] 4)) (w.heap.size + 2) 42 42 4 i0 _ 1 1 Tryd.underlying42 hi hz0 hz1 hz2 rfl (by decide) _ _ _ HR1.out ⟨wr.heap.size, 0, none⟩ 1 1 [.bool tb] rfl (new1 _ _ _ _ rfl) (by simp [Value.oneCell']) (by unfold maxLen; have := HXL.out; omega) (by have := HXL.out; omega) (Nat.le_trans HSZ2.out (by simp))
          clear hi hz0 hz1 hz2
          obtain ⟨A3, ac3, hv3⟩ := own_slice hown'
          subst hv3
          have hc5b : Hid ((wr.drew.alloc (.cells #[.bool tb] 4)).cell? ⟨w.heap.size + 1, 5, none⟩ = some (.slice AA k ac)) := Lib.hid (by rw [World.cell?_alloc_lt _ _ _ (by show w.heap.size + 1 < wr.heap.size; have := HSZ2.out; omega)]; exact hc5)
          have hne2 : ∀ j, (Value.slice AA k ac).ownBlock = some j → w.heap.size + 2 ≤ j := fun j e => (HR1.out.lt j e).1
          have HROW2 : Hid (w2.heap[w.heap.size + 1]? = some (.cells (stL 3 0 [] [] 0 (.slice AA k ac) c0).toArray 44 (0, 0))) := Lib.hid ((hgrow.block (w.heap.size + 1) (by have := HSZ2.out; simp; omega) (fun e => by have := hne2 _ e.symm; omega)).trans ((Below.heap_alloc wr.drew _ _ (by show w.heap.size + 1 < wr.heap.size; have := HSZ2.out; omega)).trans HROW.out))
          have HRES2 : Hid (w2.heap[w.heap.size]? = some (.cells #[.int .i64 0, .int .i64 0, .string ⟨#[]⟩, .string ⟨#[]⟩, .int .i64 0, .slice none 0 0, .int .i64 0, .int .i64 0, .int .i64 0, .int .i64 0, .int .i64 0, .int .i64 0, .int .i64 0, .int .i64 0, .int .i64 0, .int .i64 0, .int .i64 0, .int .i64 0, .int .i64 0] 44 (0, 0))) := Lib.hid ((hgrow.block w.heap.size (by have := HSZ2.out; simp; omega) (fun e => by have := hne2 _ e.symm; omega)).trans ((Below.heap_alloc wr.drew _ _ (by show w.heap.size < wr.heap.size; have := HSZ2.out; omega)).trans HRES.out))
          have HC5 : Hid (w2.cell? ⟨w.heap.size + 1, 5, none⟩ = some (.slice AA k ac)) := Lib.hid (cell_of_row w2 _ 5 _ 44 _ HROW2.out)
          have HF5 : Hid (w2.frozen? ⟨w.heap.size + 1, 5, none⟩ = false) := Lib.hid (frozen_of_row w2 _ 5 _ 44 HROW2.out)
          have HO := Lib.hid hown'
          have HBN : Hid (Below w.heap.size w w2) := Lib.hid (((below_drew HB.out).alloc (by have := HSZ2.out; show w.heap.size ≤ wr.heap.size; omega) _).grown hgrow (by have := HSZ2.out; simp; omega) (fun j e => by have := hne2 j e; omega))
          have HSN : Hid (w.heap.size + 2 ≤ w2.heap.size) := Lib.hid (Nat.le_trans HSZ2.out (Nat.le_trans (by simp) hgrow.size))
          clear hown' hgrow hne2
          go_wp2_with fail
          refine wp_region_any (by kernel_rfl) ?_
          change wpAny _ _ _ _ _ _ _ (World.drew _)
          refine wpAny_take (i := 0) (oi := ⟨some 82, _, _, _, _, none⟩) (v := .pointer (some ⟨(w.heap.size + 1), 5, none⟩)) rfl (by kernel_rfl) (by kernel_rfl) (by kernel_rfl) (fun _ _ _ h => h) (Or.inl ⟨by kernel_rfl, ?_⟩) ?_
          · intro wx; go_simp
          try simp only [Act.put, List.setIfInBounds_toArray]
          refine wpAny_take (i := 2) (oi := ⟨some 84, _, _, _, _, none⟩) (v := .slice (some ⟨b, o, none⟩) ws.length cp) rfl (by kernel_rfl) (by kernel_rfl) (by kernel_rfl) (fun _ _ _ h => h) (Or.inl ⟨by kernel_rfl, ?_⟩) ?_
          · intro wx; go_simp
          try simp only [Act.put, List.setIfInBounds_toArray]
          refine wpAny_take (i := 3) (oi := ⟨some 85, _, _, _, _, none⟩) (v := .pointer (some ⟨b, o + 1, none⟩)) rfl (by kernel_rfl) (by kernel_rfl) (by kernel_rfl) (fun _ _ _ h => h) (Or.inl ⟨by kernel_rfl, ?_⟩) ?_
          · intro wx; go_simp
          try simp only [Act.put, List.setIfInBounds_toArray]
          refine wpAny_take (i := 5) (oi := ⟨some 87, _, _, _, _, none⟩) (v := .int .i64 k) rfl (by kernel_rfl) (by kernel_rfl) (by kernel_rfl) (fun _ _ _ h => h) (Or.inl ⟨by kernel_rfl, ?_⟩) ?_
          · intro wx; go_simp
          try simp only [Act.put, List.setIfInBounds_toArray]
          refine any2 1 4 (by kernel_rfl) ?_ ?_
          · skip
            refine op_load1 1 (by kernel_rfl) (by kernel_rfl) 42 (.tmp 82) (by kernel_rfl) (some 83) (by kernel_rfl) ⟨(w.heap.size + 1), 5, none⟩ (.slice AA k ac) (by kernel_rfl) (load26 _ _ _ _ hc5) ?_
            try simp only [Act.put, List.setIfInBounds_toArray]
            refine any1 4 (by kernel_rfl) ?_
            refine op_load1 4 (by kernel_rfl) (by kernel_rfl) 9 (.tmp 85) (by kernel_rfl) (some 86) (by kernel_rfl) ⟨b, o + 1, none⟩ (.string (str x1)) (by kernel_rfl) (load9 _ _ _ _ hc1) ?_
            try simp only [Act.put, List.setIfInBounds_toArray]
            refine wpAny_take (i := 6) (oi := ⟨some 88, _, _, _, _, none⟩) (v := .int .u8 ch.toNat) rfl (by kernel_rfl) (by kernel_rfl) (by kernel_rfl) (fun _ _ _ h => h) (Or.inl ⟨by kernel_rfl, ?_⟩) ?_
            · intro wx; go_simp
            try simp only [Act.put, List.setIfInBounds_toArray]
            refine wpAny_take (i := 7) (oi := ⟨some 89, _, _, _, _, none⟩) (v := .bool tb) rfl (by kernel_rfl) (by kernel_rfl) (by kernel_rfl) (fun _ _ _ h => h) (Or.inl ⟨by kernel_rfl, ?_⟩) ?_
            · intro wx; go_simp
            try simp only [Act.put, List.setIfInBounds_toArray]
            refine any1 8 (by kernel_rfl) ?_
            refine op_build1 8 (by kernel_rfl) (by kernel_rfl) (.buildSlice 42 1 #[(0, .tmp 89)]) (by kernel_rfl) 42 (by kernel_rfl) (some 90) (by kernel_rfl) (.slice (some ⟨wr.heap.size, 0, none⟩) 1 1) (w' := wr.drew.alloc (.cells #[.bool tb] 4)) ?_ ?_
            · go_simp
            try simp only [Act.put, List.setIfInBounds_toArray]
            refine any1 9 (by kernel_rfl) ?_
            refine op_append1 9 (by kernel_rfl) (by kernel_rfl) (.tmp 83) (.tmp 90) 42 42 (by kernel_rfl) (by kernel_rfl) (some 91) (by kernel_rfl) (v := .slice AA k ac) (y := .slice (some ⟨wr.heap.size, 0, none⟩) 1 1) (by kernel_rfl) (by kernel_rfl) hrun ?_
            try simp only [Act.put, List.setIfInBounds_toArray]
            refine wpAny_take (i := 10) (oi := ⟨some 92, _, _, _, _, none⟩) (v := .pointer (some ⟨(w.heap.size + 1), 5, none⟩)) rfl (by kernel_rfl) (by kernel_rfl) (by kernel_rfl) (fun _ _ _ h => h) (Or.inl ⟨by kernel_rfl, ?_⟩) ?_
            · intro wx; go_simp
            try simp only [Act.put, List.setIfInBounds_toArray]
            refine any1 11 (by kernel_rfl) ?_
            refine op_store1 11 (by kernel_rfl) (by kernel_rfl) 42 (.tmp 92) (.tmp 91) (by kernel_rfl) (by kernel_rfl) ⟨(w.heap.size + 1), 5, none⟩ (.slice A3 (k + 1) ac3) (by kernel_rfl) (by kernel_rfl) (store26 _ _ _ _ _ _ _ HC5.out HF5.out) ?_
            refine wpAny_done (by kernel_rfl) ?_ _
            go_wp2
            go_roundg (x1.length - (k + 1))
            case measure => rw [HK.out]; omega
            case rel =>
              refine ⟨k + 1, .slice A3 (k + 1) ac3, by omega, fun e => absurd e H45N.out, rfl, by go_num, ?_, ?_, ?_, HBN.out.setCell (by simp) _, Nat.le_trans HSN.out (by simp)⟩
              · rw [Go.heap_setCell_same _ _ _ _ _ _ HROW2.out, set_keep]
              · rw [heap_setCell_other _ _ _ _ (by simp)]; exact HRES2.out
              · rw [HT.out, boolsV_append]; exact ownsRow_setCell_below HO.out (by simp) _
          · skip
            refine op_load1 4 (by kernel_rfl) (by kernel_rfl) 9 (.tmp 85) (by kernel_rfl) (some 86) (by kernel_rfl) ⟨b, o + 1, none⟩ (.string (str x1)) (by kernel_rfl) (load9 _ _ _ _ hc1) ?_
            try simp only [Act.put, List.setIfInBounds_toArray]
            refine wpAny_take (i := 6) (oi := ⟨some 88, _, _, _, _, none⟩) (v := .int .u8 ch.toNat) rfl (by kernel_rfl) (by kernel_rfl) (by kernel_rfl) (fun _ _ _ h => h) (Or.inl ⟨by kernel_rfl, ?_⟩) ?_
            · intro wx; go_simp
            try simp only [Act.put, List.setIfInBounds_toArray]
            refine wpAny_take (i := 7) (oi := ⟨some 89, _, _, _, _, none⟩) (v := .bool tb) rfl (by kernel_rfl) (by kernel_rfl) (by kernel_rfl) (fun _ _ _ h => h) (Or.inl ⟨by kernel_rfl, ?_⟩) ?_
            · intro wx; go_simp
            try simp only [Act.put, List.setIfInBounds_toArray]
            refine any2 1 8 (by kernel_rfl) ?_ ?_
            · skip
              refine op_load1 1 (by kernel_rfl) (by kernel_rfl) 42 (.tmp 82) (by kernel_rfl) (some 83) (by kernel_rfl) ⟨(w.heap.size + 1), 5, none⟩ (.slice AA k ac) (by kernel_rfl) (load26 _ _ _ _ hc5) ?_
              try simp only [Act.put, List.setIfInBounds_toArray]
              refine any1 8 (by kernel_rfl) ?_
              refine op_build1 8 (by kernel_rfl) (by kernel_rfl) (.buildSlice 42 1 #[(0, .tmp 89)]) (by kernel_rfl) 42 (by kernel_rfl) (some 90) (by kernel_rfl) (.slice (some ⟨wr.heap.size, 0, none⟩) 1 1) (w' := wr.drew.alloc (.cells #[.bool tb] 4)) ?_ ?_
              · go_simp
              try simp only [Act.put, List.setIfInBounds_toArray]
              refine any1 9 (by kernel_rfl) ?_
              refine op_append1 9 (by kernel_rfl) (by kernel_rfl) (.tmp 83) (.tmp 90) 42 42 (by kernel_rfl) (by kernel_rfl) (some 91) (by kernel_rfl) (v := .slice AA k ac) (y := .slice (some ⟨wr.heap.size, 0, none⟩) 1 1) (by kernel_rfl) (by kernel_rfl) hrun ?_
              try simp only [Act.put, List.setIfInBounds_toArray]
              refine wpAny_take (i := 10) (oi := ⟨some 92, _, _, _, _, none⟩) (v := .pointer (some ⟨(w.heap.size + 1), 5, none⟩)) rfl (by kernel_rfl) (by kernel_rfl) (by kernel_rfl) (fun _ _ _ h => h) (Or.inl ⟨by kernel_rfl, ?_⟩) ?_
              · intro wx; go_simp
              try simp only [Act.put, List.setIfInBounds_toArray]
              refine any1 11 (by kernel_rfl) ?_
              refine op_store1 11 (by kernel_rfl) (by kernel_rfl) 42 (.tmp 92) (.tmp 91) (by kernel_rfl) (by kernel_rfl) ⟨(w.heap.size + 1), 5, none⟩ (.slice A3 (k + 1) ac3) (by kernel_rfl) (by kernel_rfl) (store26 _ _ _ _ _ _ _ HC5.out HF5.out) ?_
              refine wpAny_done (by kernel_rfl) ?_ _
              go_wp2
              go_roundg (x1.length - (k + 1))
              case measure => rw [HK.out]; omega
              case rel =>
                refine ⟨k + 1, .slice A3 (k + 1) ac3, by omega, fun e => absurd e H45N.out, rfl, by go_num, ?_, ?_, ?_, HBN.out.setCell (by simp) _, Nat.le_trans HSN.out (by simp)⟩
                · rw [Go.heap_setCell_same _ _ _ _ _ _ HROW2.out, set_keep]
                · rw [heap_setCell_other _ _ _ _ (by simp)]; exact HRES2.out
                · rw [HT.out, boolsV_append]; exact ownsRow_setCell_below HO.out (by simp) _
            · skip
              refine op_build1 8 (by kernel_rfl) (by kernel_rfl) (.buildSlice 42 1 #[(0, .tmp 89)]) (by kernel_rfl) 42 (by kernel_rfl) (some 90) (by kernel_rfl) (.slice (some ⟨wr.heap.size, 0, none⟩) 1 1) (w' := wr.drew.alloc (.cells #[.bool tb] 4)) ?_ ?_
              · go_simp
              try simp only [Act.put, List.setIfInBounds_toArray]
              refine any1 1 (by kernel_rfl) ?_
              refine op_load1 1 (by kernel_rfl) (by kernel_rfl) 42 (.tmp 82) (by kernel_rfl) (some 83) (by kernel_rfl) ⟨(w.heap.size + 1), 5, none⟩ (.slice AA k ac) (by kernel_rfl) (load26 _ _ _ _ hc5b.out) ?_
              try simp only [Act.put, List.setIfInBounds_toArray]
              refine any1 9 (by kernel_rfl) ?_
              refine op_append1 9 (by kernel_rfl) (by kernel_rfl) (.tmp 83) (.tmp 90) 42 42 (by kernel_rfl) (by kernel_rfl) (some 91) (by kernel_rfl) (v := .slice AA k ac) (y := .slice (some ⟨wr.heap.size, 0, none⟩) 1 1) (by kernel_rfl) (by kernel_rfl) hrun ?_
              try simp only [Act.put, List.setIfInBounds_toArray]
              refine wpAny_take (i := 10) (oi := ⟨some 92, _, _, _, _, none⟩) (v := .pointer (some ⟨(w.heap.size + 1), 5, none⟩)) rfl (by kernel_rfl) (by kernel_rfl) (by kernel_rfl) (fun _ _ _ h => h) (Or.inl ⟨by kernel_rfl, ?_⟩) ?_
              · intro wx; go_simp
              try simp only [Act.put, List.setIfInBounds_toArray]
              refine any1 11 (by kernel_rfl) ?_
              refine op_store1 11 (by kernel_rfl) (by kernel_rfl) 42 (.tmp 92) (.tmp 91) (by kernel_rfl) (by kernel_rfl) ⟨(w.heap.size + 1), 5, none⟩ (.slice A3 (k + 1) ac3) (by kernel_rfl) (by kernel_rfl) (store26 _ _ _ _ _ _ _ HC5.out HF5.out) ?_
              refine wpAny_done (by kernel_rfl) ?_ _
              go_wp2
              go_roundg (x1.length - (k + 1))
              case measure => rw [HK.out]; omega
              case rel =>
                refine ⟨k + 1, .slice A3 (k + 1) ac3, by omega, fun e => absurd e H45N.out, rfl, by go_num, ?_, ?_, ?_, HBN.out.setCell (by simp) _, Nat.le_trans HSN.out (by simp)⟩
                · rw [Go.heap_setCell_same _ _ _ _ _ _ HROW2.out, set_keep]
                · rw [heap_setCell_other _ _ _ _ (by simp)]; exact HRES2.out
                · rw [HT.out, boolsV_append]; exact ownsRow_setCell_below HO.out (by simp) _
        · have hkk : (keepOf x1).length = k := by
            by_cases e : x1 = [45]
            · rw [show keepOf x1 = [] from if_pos e, H45.out e]; rfl
            · rw [show keepOf x1 = x1.map (fun c => decide (c = 49)) from if_neg e]; simp; by_cases q : k < x1.length; exact absurd ⟨q, e⟩ hgo; omega
          have HOWN : Hid (wr.ownsRow (w.heap.size + 2) 4 1 (.slice AA (keepOf x1).length ac) (keepOf x1).length (boolsV (keepOf x1))) := Lib.hid (by have := HR.out; rw [List.take_of_length_le (by omega)] at this; rw [hkk]; exact this)
          have HROWk : Hid (wr.heap[w.heap.size + 1]? = some (.cells (stL 3 0 [] [] 0 (.slice AA (keepOf x1).length ac) c0).toArray 44 (0, 0))) := Lib.hid (by rw [hkk]; exact HROW.out)
          have HFK : Hid ((keepOf x1).length ≤ 100000) := Lib.hid (by have := HXL.out; omega)
          have hHB := HB.out
          have HRW := HROWk
          have HRS := HRES
          have HBW := HB
          clear hc5 hf5 hHB
          generalize keepOf x1 = kk at *
          have HEL : Hid (∃ L, stL 3 0 [] [] 0 (.slice AA kk.length ac) c0 = L) := Lib.hid ⟨_, rfl⟩
          obtain ⟨L, hL⟩ := HEL.out
          have HLL : Hid (stL 3 0 [] [] 0 (.slice AA kk.length ac) c0 = L) := Lib.hid hL
          have HIL : Hid ((Tryd.prog.info? 44).map (·.size) = some L.length) := Lib.hid (by rw [← hL]; exact info30)
          have HIL2 : Hid ((Tryd.prog.info? 44).map (·.size) = some L.toArray.size) := Lib.hid (by rw [← hL]; exact info30)
          have HOS : Hid ((#[.int .i64 0, .int .i64 0, .string ⟨#[]⟩, .string ⟨#[]⟩, .int .i64 0, .slice none 0 0, .int .i64 0, .int .i64 0, .int .i64 0, .int .i64 0, .int .i64 0, .int .i64 0, .int .i64 0, .int .i64 0, .int .i64 0, .int .i64 0, .int .i64 0, .int .i64 0, .int .i64 0] : Array Value).size = L.toArray.size) := Lib.hid (by rw [← hL]; rfl)
          have HOL : Hid (L.toArray.all (·.oneCell') = true) := Lib.hid (by rw [← hL]; exact stL_one _ _ _ _ _ _ _ _ _)
          clear hL HEL
          rw [HLL.out] at HRW
          by_cases hkl : k < x1.length
          · have h45 : x1 = [45] := Classical.byContradiction (fun e => hgo ⟨hkl, e⟩)
            have t45 : ((str x1).toList == [45]) = true := by rw [str_toList]; simpa using h45
            have h1 : (k : Int) < (x1.length : Int) := by omega
            have h1d : decide ((k : Int) < (x1.length : Int)) = true := by simpa using h1
            clear hgo h45 hkl hkk
            go_wp2_with (first
              | ((with_reducible refine wpList_load_midg (op := ⟨some 107, _, _, _, _, _⟩) ?_ 44 (.tmp 3) rfl (w.heap.size + 1) 0 ?_ L _ (range_of_row HRW.out) Tryd.underlying44 rfl HIL.out ?_); kernel_rfl; rfl)
              | ((with_reducible refine wpList_store_row (o := ⟨none, _, _, _, _, _⟩) rfl 44 (.tmp 2) (.tmp 107) rfl w.heap.size L.toArray ?_ ?_ 44 _ HRS.out HIL2.out HOS.out HOL.out ?_); rfl; rfl))
            rw [HGQ.out]
            exact bodyPost_ret (results_cell_row rfl _ _ w.heap.size 44 L.toArray (0, 0) _ rfl (setRow_heap _ _ _ _ _ _ HRS.out) Tryd.underlying44 rfl HIL2.out) rfl ⟨⟨AA, ac, Kp.of_own (own_setRow HOWN.out (by omega)), (fun a ha => by have := own_lo HOWN.out a ha; omega), ⟨by simp, by simp, HFK.out⟩, by rw [← HLL.out]; rfl⟩, below_setRow HBW.out (Nat.le_refl _) _⟩
          · have h1 : ¬ (k : Int) < (x1.length : Int) := by omega
            have h1d : decide ((k : Int) < (x1.length : Int)) = false := by simpa using h1
            clear hgo hkl hkk
            go_wp2_with (first
              | ((with_reducible refine wpList_load_midg (op := ⟨some 107, _, _, _, _, _⟩) ?_ 44 (.tmp 3) rfl (w.heap.size + 1) 0 ?_ L _ (range_of_row HRW.out) Tryd.underlying44 rfl HIL.out ?_); kernel_rfl; rfl)
              | ((with_reducible refine wpList_store_row (o := ⟨none, _, _, _, _, _⟩) rfl 44 (.tmp 2) (.tmp 107) rfl w.heap.size L.toArray ?_ ?_ 44 _ HRS.out HIL2.out HOS.out HOL.out ?_); rfl; rfl))
            rw [HGQ.out]
            exact bodyPost_ret (results_cell_row rfl _ _ w.heap.size 44 L.toArray (0, 0) _ rfl (setRow_heap _ _ _ _ _ _ HRS.out) Tryd.underlying44 rfl HIL2.out) rfl ⟨⟨AA, ac, Kp.of_own (own_setRow HOWN.out (by omega)), (fun a ha => by have := own_lo HOWN.out a ha; omega), ⟨by simp, by simp, HFK.out⟩, by rw [← HLL.out]; rfl⟩, below_setRow HBW.out (Nat.le_refl _) _⟩
    rw [if_neg (fun q => e2 q.1)] at HGP
    have t1 : ((str x0).toList == [102, 117, 115, 101]) = false := by rw [str_toList]; simpa [fuseW] using e1
    have t2 : ((str x0).toList == [112, 111, 119, 101, 114]) = false := by rw [str_toList]; simpa [powerW] using e2
    clear e1 e2
    by_cases e3 : x0 = confW
    case neg =>
      have t3 : ((str x0).toList == [99, 111, 110, 102]) = false := by rw [str_toList]; simpa [confW] using e3
      rw [if_neg (fun q => e3 q.1)] at HGP
      clear e3
      have HGQ := HGP
      have HRW := HROW
      have HRS := HRES
      have HBW := HB
      have HEL : Hid (∃ L, stL 0 0 [] [] 0 (.slice none 0 0) c0 = L) := Lib.hid ⟨_, rfl⟩
      obtain ⟨L, hL⟩ := HEL.out
      have HLL : Hid (stL 0 0 [] [] 0 (.slice none 0 0) c0 = L) := Lib.hid hL
      have HIL : Hid ((Tryd.prog.info? 44).map (·.size) = some L.length) := Lib.hid (by rw [← hL]; exact info30)
      have HIL2 : Hid ((Tryd.prog.info? 44).map (·.size) = some L.toArray.size) := Lib.hid (by rw [← hL]; exact info30)
      have HOS : Hid ((#[.int .i64 0, .int .i64 0, .string ⟨#[]⟩, .string ⟨#[]⟩, .int .i64 0, .slice none 0 0, .int .i64 0, .int .i64 0, .int .i64 0, .int .i64 0, .int .i64 0, .int .i64 0, .int .i64 0, .int .i64 0, .int .i64 0, .int .i64 0, .int .i64 0, .int .i64 0, .int .i64 0] : Array Value).size = L.toArray.size) := Lib.hid (by rw [← hL]; rfl)
      have HOL : Hid (L.toArray.all (·.oneCell') = true) := Lib.hid (by rw [← hL]; exact stL_one _ _ _ _ _ _ _ _ _)
      clear hL HEL
      rw [HLL.out] at HRW
      go_wp2_with (first
        | ((with_reducible refine wpList_load_midg (op := ⟨some 107, _, _, _, _, _⟩) ?_ 44 (.tmp 3) rfl (w.heap.size + 1) 0 ?_ L _ (range_of_row HRW.out) Tryd.underlying44 rfl HIL.out ?_); kernel_rfl; rfl)
        | ((with_reducible refine wpList_store_row (o := ⟨none, _, _, _, _, _⟩) rfl 44 (.tmp 2) (.tmp 107) rfl w.heap.size L.toArray ?_ ?_ 44 _ HRS.out HIL2.out HOS.out HOL.out ?_); rfl; rfl))
      rw [HGQ.out]
      exact bodyPost_ret (results_cell_row rfl _ _ w.heap.size 44 L.toArray (0, 0) _ rfl (setRow_heap _ _ _ _ _ _ HRS.out) Tryd.underlying44 rfl HIL2.out) rfl ⟨⟨none, 0, Kp.nil _, noA, ⟨by simp [zSt], by simp [zSt], by simp [zSt]⟩, by rw [← HLL.out]; rfl⟩, below_setRow HBW.out (Nat.le_refl _) _⟩
    subst e3
    have t3 : ((str confW).toList == [99, 111, 110, 102]) = true := by rw [str_toList]; rfl
    by_cases h14 : ws.length = 14
    case neg =>
      have hl14 : ((ws.length : Int) == 14) = false := by simp only [beq_eq_false_iff_ne]; omega
      rw [if_neg (fun q => h14 q.2)] at HGP
      clear h14
      have HGQ := HGP
      have HRW := HROW
      have HRS := HRES
      have HBW := HB
      have HEL : Hid (∃ L, stL 0 0 [] [] 0 (.slice none 0 0) c0 = L) := Lib.hid ⟨_, rfl⟩
      obtain ⟨L, hL⟩ := HEL.out
      have HLL : Hid (stL 0 0 [] [] 0 (.slice none 0 0) c0 = L) := Lib.hid hL
      have HIL : Hid ((Tryd.prog.info? 44).map (·.size) = some L.length) := Lib.hid (by rw [← hL]; exact info30)
      have HIL2 : Hid ((Tryd.prog.info? 44).map (·.size) = some L.toArray.size) := Lib.hid (by rw [← hL]; exact info30)
      have HOS : Hid ((#[.int .i64 0, .int .i64 0, .string ⟨#[]⟩, .string ⟨#[]⟩, .int .i64 0, .slice none 0 0, .int .i64 0, .int .i64 0, .int .i64 0, .int .i64 0, .int .i64 0, .int .i64 0, .int .i64 0, .int .i64 0, .int .i64 0, .int .i64 0, .int .i64 0, .int .i64 0, .int .i64 0] : Array Value).size = L.toArray.size) := Lib.hid (by rw [← hL]; rfl)
      have HOL : Hid (L.toArray.all (·.oneCell') = true) := Lib.hid (by rw [← hL]; exact stL_one _ _ _ _ _ _ _ _ _)
      clear hL HEL
      rw [HLL.out] at HRW
      go_wp2_with (first
        | ((with_reducible refine wpList_load_midg (op := ⟨some 107, _, _, _, _, _⟩) ?_ 44 (.tmp 3) rfl (w.heap.size + 1) 0 ?_ L _ (range_of_row HRW.out) Tryd.underlying44 rfl HIL.out ?_); kernel_rfl; rfl)
        | ((with_reducible refine wpList_store_row (o := ⟨none, _, _, _, _, _⟩) rfl 44 (.tmp 2) (.tmp 107) rfl w.heap.size L.toArray ?_ ?_ 44 _ HRS.out HIL2.out HOS.out HOL.out ?_); rfl; rfl))
      rw [HGQ.out]
      exact bodyPost_ret (results_cell_row rfl _ _ w.heap.size 44 L.toArray (0, 0) _ rfl (setRow_heap _ _ _ _ _ _ HRS.out) Tryd.underlying44 rfl HIL2.out) rfl ⟨⟨none, 0, Kp.nil _, noA, ⟨by simp [zSt], by simp [zSt], by simp [zSt]⟩, by rw [← HLL.out]; rfl⟩, below_setRow HBW.out (Nat.le_refl _) _⟩
    rw [if_pos ⟨rfl, h14⟩] at HGP
    have hl14 : ((ws.length : Int) == 14) = true := by simp only [beq_iff_eq]; omega
    have hone : (1 : Int) ≤ (ws.length : Int) := by omega
    have hcapI : (ws.length : Int) ≤ (cp : Int) := by omega
    have hcp : ¬ cp = 1 := by omega
    have HSZS := Lib.hid (rsizes38 _ ws.tail wr ((HWS.out.below (Nat.le_refl _) HB.out).tail (by intro e; rw [e] at h14; simp at h14)) (by simp; omega) (fun x hx => by have := HX.out x (List.mem_of_mem_tail hx); omega))
    have HCF : Hid (∀ W u, Is W u (szs ws.tail) → Calls Tryd.prog 22 #[u] W fun e w' => e = .returned (.agg (cfA (cfOf (szs ws.tail)))) ∧ Below W.heap.size W w') := Lib.hid (fun W u h => rconf37 u _ W h (by simp [szs]; omega))
    have HGQ := HGP
    generalize szs ws.tail = zs at *
    generalize cfOf zs = c at *
    clear h14
    have HEL : Hid (∃ L, stL 4 0 [] [] 0 (.slice none 0 0) c = L) := Lib.hid ⟨_, rfl⟩
    obtain ⟨L, hL⟩ := HEL.out
    have HLL : Hid (stL 4 0 [] [] 0 (.slice none 0 0) c = L) := Lib.hid hL
    have HIL : Hid ((Tryd.prog.info? 44).map (·.size) = some L.length) := Lib.hid (by rw [← hL]; exact info30)
    have HIL2 : Hid ((Tryd.prog.info? 44).map (·.size) = some L.toArray.size) := Lib.hid (by rw [← hL]; exact info30)
    have HOS : Hid ((#[.int .i64 0, .int .i64 0, .string ⟨#[]⟩, .string ⟨#[]⟩, .int .i64 0, .slice none 0 0, .int .i64 0, .int .i64 0, .int .i64 0, .int .i64 0, .int .i64 0, .int .i64 0, .int .i64 0, .int .i64 0, .int .i64 0, .int .i64 0, .int .i64 0, .int .i64 0, .int .i64 0] : Array Value).size = L.toArray.size) := Lib.hid (by rw [← hL]; rfl)
    have HOL : Hid (L.toArray.all (·.oneCell') = true) := Lib.hid (by rw [← hL]; exact stL_one _ _ _ _ _ _ _ _ _)
    clear hL HEL
    go_wp2_with (first
      | (go_at_call 21; (with_reducible refine HSZS.out.mono ?_); rintro e w6 ⟨u, rfl, his, hb6⟩; have HIS := Lib.hid his; have HB6 := Lib.hid hb6; clear his hb6)
      | (go_at_call 22; (with_reducible refine (HCF.out _ _ HIS.out).mono ?_); rintro e w7 ⟨rfl, hb7⟩; have HB7 : Hid (Below wr.heap.size wr w7) := Lib.hid (HB6.out.trans (hb7.mono HB6.out.size)); have HROW7 : Hid (w7.heap[w.heap.size + 1]? = some (.cells (stL 0 0 [] [] 0 (.slice none 0 0) c0).toArray 44 (0, 0))) := Lib.hid ((HB7.out.block (w.heap.size + 1) (by have := HSZ.out; omega)).trans HROW.out); have HRW : Hid ((w7.setRow (w.heap.size + 1) (stL 4 0 [] [] 0 (.slice none 0 0) c).toArray).heap[w.heap.size + 1]? = some (.cells L.toArray 44 (0, 0))) := Lib.hid (by rw [← HLL.out]; exact setRow_heap _ _ _ _ _ _ HROW7.out); have HRS : Hid ((w7.setRow (w.heap.size + 1) (stL 4 0 [] [] 0 (.slice none 0 0) c).toArray).heap[w.heap.size]? = some (.cells #[.int .i64 0, .int .i64 0, .string ⟨#[]⟩, .string ⟨#[]⟩, .int .i64 0, .slice none 0 0, .int .i64 0, .int .i64 0, .int .i64 0, .int .i64 0, .int .i64 0, .int .i64 0, .int .i64 0, .int .i64 0, .int .i64 0, .int .i64 0, .int .i64 0, .int .i64 0, .int .i64 0] 44 (0, 0))) := Lib.hid (by rw [setRow_other _ _ _ _ (by omega)]; exact (HB7.out.block w.heap.size (by have := HSZ.out; omega)).trans HRES.out); have HBW : Hid (Below w.heap.size w (w7.setRow (w.heap.size + 1) (stL 4 0 [] [] 0 (.slice none 0 0) c).toArray)) := Lib.hid (below_setRow (HB.out.trans (HB7.out.mono HB.out.size)) (by omega) _); clear hb7)
      | ((with_reducible refine wpList_store_row (o := ⟨none, _, _, _, _, _⟩) rfl 44 (.tmp 3) (.tmp 106) rfl (w.heap.size + 1) (stL 4 0 [] [] 0 (.slice none 0 0) c).toArray ?_ ?_ 44 _ HROW7.out (HIZ.out _ _ _ _ _ _ _) rfl (HOZ.out _ _ _ _ _ _ _ _ _) ?_); rfl; rfl)
      | ((with_reducible refine wpList_load_midg (op := ⟨some 107, _, _, _, _, _⟩) ?_ 44 (.tmp 3) rfl (w.heap.size + 1) 0 ?_ L _ (range_of_row HRW.out) Tryd.underlying44 rfl HIL.out ?_); kernel_rfl; rfl)
      | ((with_reducible refine wpList_store_row (o := ⟨none, _, _, _, _, _⟩) rfl 44 (.tmp 2) (.tmp 107) rfl w.heap.size L.toArray ?_ ?_ 44 _ HRS.out HIL2.out HOS.out HOL.out ?_); rfl; rfl))
    rw [HGQ.out]
    exact bodyPost_ret (results_cell_row rfl _ _ w.heap.size 44 L.toArray (0, 0) _ rfl (setRow_heap _ _ _ _ _ _ HRS.out) Tryd.underlying44 rfl HIL2.out) rfl ⟨⟨none, 0, Kp.nil _, noA, ⟨by simp, by simp, by simp⟩, by rw [← HLL.out]; rfl⟩, below_setRow HBW.out (Nat.le_refl _) _⟩
end Go.Proofs.YtjakkmioofbcaaaDoor
