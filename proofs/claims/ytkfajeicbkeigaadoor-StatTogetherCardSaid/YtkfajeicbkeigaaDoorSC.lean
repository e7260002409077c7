/- The walk over the reference's number. -/
import Derived.Test.YtkfajeicbkeigaaDoorSB
import Derived.Deep.RegionWith
namespace Go.Proofs.YtkfajeicbkeigaaDoor
open Go.RowKit
theorem conv_at (W : World) (g : Nat) (x : Int) (fr : Nat × Nat) (h : W.heap[g]? = some (.cells #[.int .u8 x] 5 fr)) : (convert 98 9 (.slice (some ⟨g, 0, none⟩) 1 1)).run Tryd.prog W = .ok (.string (str [UInt8.ofNat x.toNat])) W :=
  run_convert_bytes_arg (P := Tryd.prog) W 98 5 Tryd.underlying98 Tryd.underlying5 g 0 1 1 [x] rfl (fun i hi => by
    obtain rfl : i = 0 := by omega
    exact cell_of_row W _ 0 _ 5 _ h) 9 Tryd.underlying9
theorem conv_one (w : World) (x : Int) : (convert 98 9 (.slice (some ⟨w.heap.size, 0, none⟩) 1 1)).run Tryd.prog (w.alloc (.cells #[.int .u8 x] 5)) = .ok (.string (str [UInt8.ofNat x.toNat])) (w.alloc (.cells #[.int .u8 x] 5)) :=
  run_convert_bytes_arg (P := Tryd.prog) (w.alloc (.cells #[.int .u8 x] 5)) 98 5 Tryd.underlying98 Tryd.underlying5 w.heap.size 0 1 1 [x] rfl (fun i hi => by
    obtain rfl : i = 0 := by omega
    rw [World.cell?_alloc_new]
    rfl) 9 Tryd.underlying9
set_option maxRecDepth 100000 in
set_option maxHeartbeats 1000000 in
theorem number38 (n : Nat) (hn : n ≤ 10000) : ∀ w : World, Calls Tryd.prog 38 #[.int .i64 (n : Int)] w fun e w' => e = .returned (.string (str (digs n))) ∧ Below w.heap.size w w' := by
  induction n using Nat.strongRecOn with
  | _ n ih =>
    intro w
    have HV := Lib.hid (conv_one w)
    by_cases h : n < 10
    · rw [digs_small h]
      have h1 : (48 + (n : Int)) % 256 = 48 + (n : Int) := by omega
      have HT : Hid ((48 + (n : Int)).toNat = 48 + n) := Lib.hid (by omega)
      have hv := HV.out (48 + (n : Int))
      rw [HT.out] at hv
      have h2 : (n : Int) < 10 := by omega
      generalize UInt8.ofNat (48 + n) = c at *
      clear h ih
      go_enter Tryd.func38, Tryd.ntmps38
      go_wp2_with fail
      go_ret
      exact ⟨rfl, (Below.refl _ _).alloc (Nat.le_refl _) _⟩
    · have HI : Hid (∀ W, Calls Tryd.prog 38 #[.int .i64 ((n / 10 : Nat) : Int)] W fun e w' => e = .returned (.string (str (digs (n / 10)))) ∧ Below W.heap.size W w') := Lib.hid (fun W => ih (n / 10) (by omega) (by omega) W)
      rw [digs_big h]
      have HD : Hid (str (digs (n / 10) ++ [UInt8.ofNat (48 + n % 10)]) = str (digs (n / 10)) ++ str [UInt8.ofNat (48 + n % 10)]) := Lib.hid (str_append _ _).symm
      rw [HD.out]
      have hl := digs_len (n / 10)
      have hs : (str (digs (n / 10))).size ≤ 2000 := by rw [str_size]; omega
      have hs2 : (str [UInt8.ofNat (48 + n % 10)]).size = 1 := str_size _
      have e1 : (n : Int).tdiv 10 = ((n / 10 : Nat) : Int) := rfl
      have e2 : (n : Int).tmod 10 = ((n % 10 : Nat) : Int) := rfl
      have e3 : IntKind.i64.wrap ((n / 10 : Nat) : Int) = ((n / 10 : Nat) : Int) := IntWalk.i64_in _ (by omega)
      have e4 : IntKind.i64.wrap ((n % 10 : Nat) : Int) = ((n % 10 : Nat) : Int) := IntWalk.i64_in _ (by omega)
      have e5 : IntKind.i64.wrap (48 + ((n % 10 : Nat) : Int)) = 48 + ((n % 10 : Nat) : Int) := IntWalk.i64_in _ (by omega)
      have e6 : IntKind.u8.wrap (48 + ((n % 10 : Nat) : Int)) = 48 + ((n % 10 : Nat) : Int) := by rw [IntKind.wrap_u8]; omega
      have h1 : (48 + ((n % 10 : Nat) : Int)) % 256 = 48 + ((n % 10 : Nat) : Int) := by omega
      have hm : n % 10 < 10 := by omega
      have HT : Hid ((48 + ((n % 10 : Nat) : Int)).toNat = 48 + n % 10) := Lib.hid (by omega)
      have HV2 : Hid (∀ W : World, (convert 98 9 (.slice (some ⟨W.heap.size, 0, none⟩) 1 1)).run Tryd.prog (W.alloc (.cells #[.int .u8 (48 + ((n % 10 : Nat) : Int))] 5)) = .ok (.string (str [UInt8.ofNat (48 + n % 10)])) (W.alloc (.cells #[.int .u8 (48 + ((n % 10 : Nat) : Int))] 5))) := Lib.hid (fun W => by
        have := conv_one W (48 + ((n % 10 : Nat) : Int))
        rw [HT.out] at this
        exact this)
      have HX : Hid (∀ X W3 : World, Below X.heap.size X W3 → X.heap[w.heap.size]? = some (.cells #[.int .u8 (48 + ((n % 10 : Nat) : Int))] 5 (0, 0)) → (convert 98 9 (.slice (some ⟨w.heap.size, 0, none⟩) 1 1)).run Tryd.prog W3 = .ok (.string (str [UInt8.ofNat (48 + n % 10)])) W3) := Lib.hid (fun X W3 hb hx => by
        have := conv_at W3 w.heap.size (48 + ((n % 10 : Nat) : Int)) _ ((hb.block _ (Array.getElem?_eq_some_iff.1 hx).1).trans hx)
        rw [HT.out] at this
        exact this)
      generalize str [UInt8.ofNat (48 + n % 10)] = sd at *
      generalize str (digs (n / 10)) = sq at *
      have h2 : ¬ (n : Int) < 10 := by omega
      generalize n % 10 = m at *
      generalize n / 10 = q at *
      clear h ih HD hl HV HT
      have lim : ¬ 9223372036854775807 < sq.size + sd.size := by omega
      go_enter Tryd.func38, Tryd.ntmps38
      go_wp2_with fail
      have hv := HV2.out
      have hv2 := HX.out (w.alloc (.cells #[.int .u8 (48 + (m : Int))] 5)).drew _ (Below.refl _ _) (heap_alloc_new w _)
      go_region_with (go_at_call 38; (with_reducible refine (HI.out _).mono ?_); rintro e w3 ⟨rfl, hb3⟩; have HB3 := Lib.hid hb3; (try have hx := HX.out _ _ hb3 (heap_alloc_new w _)); clear hb3)
      all_goals
        go_wp2_with fail
        go_ret
        refine ⟨rfl, ?_⟩
        first
          | exact (Below.trans (below_drew (Below.refl w.heap.size w)) HB3.out).alloc HB3.out.size _
          | exact Below.trans (below_drew ((Below.refl w.heap.size w).alloc (Nat.le_refl _) (.cells #[.int .u8 (48 + (m : Int))] 5))) (HB3.out.mono (show w.heap.size ≤ (w.alloc (.cells #[.int .u8 (48 + (m : Int))] 5)).heap.size from by simp))
end Go.Proofs.YtkfajeicbkeigaaDoor
