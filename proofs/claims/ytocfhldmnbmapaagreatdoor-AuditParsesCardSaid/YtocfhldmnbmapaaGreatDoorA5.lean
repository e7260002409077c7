/- The walks over FormatUint, number. -/
import Derived.Test.YtocfhldmnbmapaaGreatDoorA3
namespace Go.Proofs.YtocfhldmnbmapaaGreatDoor
open Go.RowKit Go.Lib Go.Sort
theorem ndig_le {u : Nat} (h : u < 4294967296) : Lib.nDigits u ≤ 10 := by
  have key : ∀ (k u : Nat), u < 10 ^ k → 1 ≤ k → Lib.nDigits u ≤ k := by
    intro k
    induction k with
    | zero => intro u _ h; omega
    | succ k ih =>
      intro u hu _
      by_cases q : u < 10
      · rw [Lib.nDigits_small q]; omega
      · rw [Lib.nDigits_big q]
        rw [Nat.pow_succ] at hu
        have hk : 1 ≤ k := by
          cases k with
          | zero => simp at hu; omega
          | succ k => omega
        have := ih (u / 10) (by omega) hk
        omega
  exact key 10 u (by omega) (by omega)
set_option maxRecDepth 100000 in
set_option maxHeartbeats 2000000 in
theorem fmt66 (u : Nat) (h : u < 4294967296) (w : World) (ht : Gw w) :
    Calls Tryz.prog 66 #[.int .u64 (u : Nat), .int .i64 10] w fun e w' => e = .returned (.string (str (Lib.decDigits u))) ∧ Below w.heap.size w w' := by
  by_cases hs : u < 100
  · have hsi : (u : Int) < 100 := by omega
    have hw : IntKind.i64.wrap (u : Int) = (u : Int) := IntWalk.i64_in _ (by omega)
    go_enter Tryz.func66, Tryz.ntmps66
    go_wp2_with fail
    refine Calls.mono (Tryz.internal_strconv_small u hs _) ?_
    rintro e w3 ⟨rfl, rfl⟩
    go_wp2_with fail
    go_ret
    exact ⟨rfl, Below.refl _ _⟩
  · have hsi : ¬ (u : Int) < 100 := by omega
    have hal : Tryz.prog.arrayLen 208 = 24 := by kernel_rfl
    have hnl := ndig_le h
    have hnp := Lib.nDigits_pos u
    have hlt := Lib.lt_pow_nDigits u
    have hdl := Lib.decDigits_length u
    obtain ⟨nd, hnd⟩ : ∃ nd, nd = Lib.nDigits u := ⟨_, rfl⟩
    rw [← hnd] at hnl hnp hlt hdl
    have hsl1 : ∀ W, (Instr.sliceAt 208 (.pointer (some ⟨w.heap.size, 0, none⟩)) none (some (.int .i64 (nd : Nat))) none).run Tryz.prog W = .ok (.slice (some ⟨w.heap.size, 0, none⟩) nd 24) W := fun W => by
      have q0 : (0 : Int) ≤ (nd : Int) := by omega
      have q1 : (nd : Int) ≤ 24 := by omega
      rw [run_sliceAt_array_h W 208 ⟨w.heap.size, 0, none⟩ (by simp [Program.arrayLen, Program.elem, Tryz.underlying208]) .i64 (nd : Nat) (by omega) (by rw [hal]; omega)]
      go_simp
    have hH0 : Holds (fun (b : UInt8) => Value.int .u8 (b.toNat : Int)) (w.alloc (.cells Lib.zeros24 208)) w.heap.size 0 (Array.replicate nd (0 : UInt8)) := fun j hj => by
      have hj' : j < nd := by simpa using hj
      refine ⟨?_, World.frozen?_alloc_new _ _ _ _⟩
      rw [World.cell?_alloc_new, zeros24_at _ (by omega), getElem!_pos _ j hj]
      simp
    have hfmt := Tryz.internal_strconv_formatBase10 w.heap.size 0 24 u (Array.replicate nd 0) (w.alloc (.cells Lib.zeros24 208)) hH0 (by rw [Array.size_replicate]; exact hlt) (by omega) (by rw [Array.size_replicate]; omega)
    rw [Array.size_replicate] at hfmt
    have HC := Lib.hid (Tryz.internal_strconv_numDigits u (by omega) (by omega) (w.alloc (.cells Lib.zeros24 208)) (Lib.tabIs_alloc ht.tb _))
    rw [← hnd] at HC
    have HF := Lib.hid hfmt
    have HH0 := Lib.hid hH0
    have HND := Lib.hid hnd
    have HDL := Lib.hid hdl
    have HNL := Lib.hid hnl
    clear hH0 hal hfmt hnd hs h hlt hdl hnl hnp
    go_enter Tryz.func66, Tryz.ntmps66
    go_wp2_with fail
    refine Calls.mono HC.out ?_
    rintro e w3 ⟨rfl, rfl⟩
    go_wp2_with fail
    refine Calls.mono HF.out ?_
    rintro e w' ⟨rfl, k, v', dk, rfl, hF⟩
    have hcv : (convert 74 9 (.slice (some ⟨w.heap.size, 0, none⟩) nd 24)).run Tryz.prog ((putRow (fun (b : UInt8) => Value.int .u8 (b.toNat : Int)) (w.alloc (.cells Lib.zeros24 208)) w.heap.size 0 dk).drewN k) = .ok (.string ⟨(Lib.decDigits u).toArray⟩) ((putRow (fun (b : UInt8) => Value.int .u8 (b.toNat : Int)) (w.alloc (.cells Lib.zeros24 208)) w.heap.size 0 dk).drewN k) := by
      have h3 : dk.size = nd := hF.size
      have h := run_convert_bytes_back (P := Tryz.prog) ((putRow (fun (b : UInt8) => Value.int .u8 (b.toNat : Int)) (w.alloc (.cells Lib.zeros24 208)) w.heap.size 0 dk).drewN k) 74 9 5 ⟨w.heap.size, 0, none⟩ 24 (Lib.decDigits u) Tryz.underlying74 Tryz.underlying5 Tryz.underlying9 (fun j hj => by
        have hF' : FmtInv (nDigits u) u 0 v' dk := by rw [← HND.out]; exact hF
        rw [Lib.row_is_numeral hF' j hj, Lib.add_plain, World.cell?_drewN]
        exact cell?_putRow (fun (b : UInt8) => Value.int .u8 (b.toNat : Int)) _ w.heap.size 0 _ dk HH0.out (by rw [h3, Array.size_replicate]) j (by rw [h3]; rw [HDL.out] at hj; exact hj))
      rw [HDL.out] at h
      exact h
    have HB : Hid (Below w.heap.size w ((putRow (fun (b : UInt8) => Value.int .u8 (b.toNat : Int)) (w.alloc (.cells Lib.zeros24 208)) w.heap.size 0 dk).drewN k)) := Lib.hid (by
      obtain ⟨os, e⟩ := putRow_grow_new (fun (b : UInt8) => Value.int .u8 (b.toNat : Int)) w #[.cells Lib.zeros24 208] w.heap.size 0 dk (Nat.le_refl _)
      rw [alloc_eq_grow, e.2]
      exact Lib.below_grow w.heap.size w (Nat.le_refl _) k os)
    clear hF
    go_wp2_with fail
    go_ret
    exact ⟨rfl, HB.out⟩
theorem fmt32 (u : Nat) (h : u < 4294967296) (w : World) (ht : Gw w) :
    Calls Tryz.prog 32 #[.int .u64 (u : Nat), .int .i64 10] w fun e w' => e = .returned (.string (str (Lib.decDigits u))) ∧ Below w.heap.size w w' := by
  have HC := Lib.hid (fmt66 u h w ht)
  generalize Lib.decDigits u = d at *
  go_enter Tryz.func32, Tryz.ntmps32
  go_wp2_with fail
  refine Calls.mono HC.out ?_
  rintro e w3 ⟨rfl, hb3⟩
  go_wp2_with fail
  go_ret
  exact ⟨rfl, hb3⟩
def NumPost (l : List UInt8) (w : World) (e : Ending) (w' : World) : Prop := ∃ (n : Nat) (b : Bool), e = .returned (.tuple #[.int .u64 (n : Nat), .bool b]) ∧ n < 4294967296 ∧ (b = true → numO l = some n) ∧ (b = false → numO l = none) ∧ Below w.heap.size w w'
set_option maxHeartbeats 2000000 in
theorem number39 (l : List UInt8) (hl : l.length ≤ 1000000) (w : World) (hg : Gw w) : Calls Tryz.prog 39 #[.string (str l)] w (NumPost l w) := by
  have hsz := str_size l
  cases hp : Lib.parseUintB 32 l with
  | ok u =>
    have hu : u < 4294967296 := by have := Lib.parseUintB_le hp; omega
    have HC := Lib.hid (Tryz.strconv_ParseUint_10_at32_ok (str l) (by omega) u hp w)
    have HG := Lib.hid hg
    have HN : Hid (∀ w', Below w.heap.size w w' → NumPost l w (.returned (.tuple #[.int .u64 (u : Nat), .bool (decide (Lib.decDigits u = l))])) w') := Lib.hid (fun w' hb => ⟨u, _, rfl, hu, fun q => by unfold numO; rw [hp]; exact if_pos (of_decide_eq_true q), fun q => by unfold numO; rw [hp]; exact if_neg (of_decide_eq_false q), hb⟩)
    have hsb := str_beq (Lib.decDigits u) l
    clear hg hp hl
    go_enter Tryz.func39, Tryz.ntmps39
    go_wp2_with fail
    refine Calls.mono HC.out ?_
    rintro _ W1 ⟨rfl, hW⟩
    have hb1 : Below w.heap.size w W1 := by
      rcases hW with rfl | rfl
      · exact Below.refl _ _
      · exact Lib.bytesWorld_below _ _ _
    have HB1 := Lib.hid hb1
    have HF := Lib.hid (fmt32 u hu W1 (HG.out.below hb1))
    clear hW hb1 HC hu
    go_wp2_with fail
    refine Calls.mono HF.out ?_
    rintro _ W2 ⟨rfl, hb2⟩
    have HB2 := Lib.hid (HB1.out.trans (hb2.mono HB1.out.size))
    clear hb2
    go_wp2_with fail
    go_ret2
    exact HN.out _ HB2.out
  | range =>
    obtain ⟨te, pe, he⟩ := hg.er
    have HC := Lib.hid (Tryz.strconv_ParseUint_10_at32_range (str l) (by omega) hp (.iface te pe) w he (.inr ⟨te, pe, rfl⟩))
    have HN : Hid (∀ w', Below w.heap.size w w' → NumPost l w (.returned (.tuple #[.int .u64 4294967295, .bool false])) w') := Lib.hid (fun w' hb => ⟨4294967295, false, rfl, by omega, (fun q => by cases q), (fun _ => by unfold numO; rw [hp]), hb⟩)
    clear hg hp hl
    go_enter Tryz.func39, Tryz.ntmps39
    go_wp2_with fail
    refine Calls.mono HC.out ?_
    rintro _ W1 ⟨N, rfl, _, _, hb⟩
    have HB := Lib.hid hb
    clear hb HC
    go_wp2_with fail
    go_ret2
    exact HN.out _ HB.out
  | _ =>
    obtain ⟨te, pe, he⟩ := hg.es
    have HC := Lib.hid (Tryz.strconv_ParseUint_10_at32_syntax (str l) (by omega) ⟨fun n e => (by have q := hp.symm.trans e; cases q), fun e => (by have q := hp.symm.trans e; cases q)⟩ (.iface te pe) w he (.inr ⟨te, pe, rfl⟩))
    have HN : Hid (∀ w', Below w.heap.size w w' → NumPost l w (.returned (.tuple #[.int .u64 0, .bool false])) w') := Lib.hid (fun w' hb => ⟨0, false, rfl, by omega, (fun q => by cases q), (fun _ => by unfold numO; rw [hp]), hb⟩)
    clear hg hp hl
    go_enter Tryz.func39, Tryz.ntmps39
    go_wp2_with fail
    refine Calls.mono HC.out ?_
    rintro _ W1 ⟨N, rfl, _, _, hb⟩
    have HB := Lib.hid hb
    clear hb HC
    go_wp2_with fail
    go_ret2
    exact HN.out _ HB.out
end Go.Proofs.YtocfhldmnbmapaaGreatDoor
