/- The walk over the law's slot. -/
import Derived.Test.YtgdljjoaiogpfaaL6
import Derived.Deep.RegionWith
namespace Go.Proofs.Ytgdljjoaiogpfaa
open Go.RowKit Go.Maps
theorem results_slot {fn : Func} {p q : Tmp} (h : fn.results = #[.cell p 48, .tmp q]) (tmps : Array Value) (w : World) (g : Nat) (a b : Value)
    (hp : tmps.getD p undef = .pointer (some ⟨g, 0, none⟩)) (c0 : w.cell? ⟨g, 0, none⟩ = some a) (c1 : w.cell? ⟨g, 1, none⟩ = some b) :
    (results fn tmps).run Try.prog w = .ok (.tuple #[.agg #[a, b], tmps.getD q undef]) w := by
  have hp' : tmps[p]?.getD undef = .pointer (some ⟨g, 0, none⟩) := by simpa using hp
  simp [results, h, hp', asAddr, Sem.run_bind, Result.andThen, go_sem, c0, c1]
set_option maxRecDepth 100000 in
set_option maxHeartbeats 2000000 in
theorem slot17 {w : World} {A : Option Addr} {n c : Nat} {hs : List Hd} (h : Hds w A n hs) (hn : n ≤ 1000) (hl : ∀ x ∈ hs, x.n ≤ 1000) (hd : Dst hs) {x : Hd} {k : Nat} {s : Slt} (hx : x ∈ hs) (hsk : x.sl[k]? = some s) :
    Calls Try.prog 17 #[.slice A n c, .agg #[.int .u32 x.id, .int .i64 (k : Int)]] w fun e w' => e = .returned (.tuple #[.agg #[.int .i64 s.1, .int .u32 s.2], .bool true]) ∧ Below w.heap.size w w' := by
  obtain ⟨q, hq⟩ := List.getElem?_of_mem hx
  have H := Lib.hid h
  have HD := Lib.hid hd
  have HQ := Lib.hid hq
  have HSK := Lib.hid hsk
  have hqn : q < n := by rw [← h.len]; exact (List.getElem?_eq_some_iff.1 hq).1
  have hkx : k < x.n := by rw [← (h.2 x hx).len]; exact (List.getElem?_eq_some_iff.1 hsk).1
  have hxn := hl x hx
  have HX := Lib.hid hx
  clear h hd hq hsk hx hl
  obtain ⟨W0, hW0⟩ : ∃ W0, (w.alloc (.cells #[.int .u32 x.id, .int .i64 (k : Int)] 39)).alloc (.cells #[.int .i64 0, .int .u32 0] 48) = W0 := ⟨_, rfl⟩
  have HB0 : Hid (Below w.heap.size w W0) := Lib.hid (hW0 ▸ ((Below.refl _ w).alloc (Nat.le_refl _) _).alloc (by simp) _)
  have hp : W0.heap[w.heap.size]? = some (.cells #[.int .u32 x.id, .int .i64 (k : Int)] 39 (0, 0)) := by
    subst hW0
    exact (heap_alloc_old _ _ (by simp)).trans (heap_alloc_new w _)
  have hr : W0.heap[w.heap.size + 1]? = some (.cells #[.int .i64 0, .int .u32 0] 48 (0, 0)) := by
    subst hW0
    have q := heap_alloc_new (w.alloc (.cells #[.int .u32 x.id, .int .i64 (k : Int)] 39)) (.cells #[.int .i64 0, .int .u32 0] 48)
    rwa [World.size_alloc] at q
  have p0 := cell_of_row _ w.heap.size 0 _ 39 (0, 0) hp
  have p1 := cell_of_row _ w.heap.size 1 _ 39 (0, 0) hp
  have r0 := cell_of_row _ (w.heap.size + 1) 0 _ 48 (0, 0) hr
  have r1 := cell_of_row _ (w.heap.size + 1) 1 _ 48 (0, 0) hr
  have f0 := frozen_of_row W0 (w.heap.size + 1) 0 _ 48 hr
  have f1 := frozen_of_row W0 (w.heap.size + 1) 1 _ 48 hr
  have HRR := Lib.hid hr
  have HW0 := Lib.hid hW0
  clear hp hr hW0
  go_enter Try.func17, Try.ntmps17
  go_wp2_with fail
  rw [HW0.out]
  go_loopg [6] n (fun gk i wr => ∃ (j nd : Nat), j ≤ q ∧ gk = n - j ∧ i = .int .i64 j ∧ wr = W0.drewN nd)
  case atStart => exact ⟨0, 0, Nat.zero_le _, rfl, rfl, rfl⟩
  case round =>
    obtain ⟨j, nd, hj, hgk, rfl, rfl⟩ := hrel
    have HK := Lib.hid hgk
    clear hgk
    obtain ⟨y, hy⟩ : ∃ y, hs[j]? = some y := ⟨hs[j]'(by rw [H.out.len]; omega), by simp⟩
    obtain ⟨b, o, rfl, c1, c2⟩ := (H.out.below HB0.out).get hy
    have hj0 : (0 : Int) ≤ (j : Int) := by omega
    have hj1 : (j : Int) < (n : Int) := by omega
    by_cases hjq : j = q
    · subst hjq
      obtain rfl : y = x := by have := HQ.out; rw [hy] at this; cases this; rfl
      obtain ⟨b2, o2, hA2, d1, d2⟩ := ((H.out.below HB0.out).2 y HX.out).get HSK.out
      rw [hA2] at c2
      have hk0 : (0 : Int) ≤ (k : Int) := by omega
      have hk1 : (k : Int) < (y.n : Int) := by omega
      clear hy hA2
      go_wp2
      go_quiet (fail)
      go_wp2
      go_region
      go_wp2
      have hq2 := set_cells (set_cells (show (W0.drewN (nd + nq + 1)).heap[w.heap.size + 1]? = _ from HRR.out) 0 (.int .i64 s.1)) 1 (.int .u32 s.2)
      refine bodyPost_ret (results_slot rfl _ _ (w.heap.size + 1) _ _ rfl (cell_of_row _ _ 0 _ 48 (0, 0) hq2) (cell_of_row _ _ 1 _ 48 (0, 0) hq2)) rfl ⟨rfl, ?_⟩
      exact ((below_drewN HB0.out _).setCell (p := ⟨w.heap.size + 1, 0, none⟩) (Nat.le_succ _) _).setCell (p := ⟨w.heap.size + 1, 1, none⟩) (Nat.le_succ _) _
    · have hne : (y.id == x.id) = false := by
        have : y.id ≠ x.id := fun e => hjq (HD.out j q y x hy HQ.out e)
        simpa using this
      clear hy
      go_wp2
      go_quiet (fail)
      go_wp2
      go_roundg (n - (j + 1))
      case measure => rw [HK.out]; omega
      case rel => exact ⟨j + 1, _, by omega, rfl, by go_num, rfl⟩
end Go.Proofs.Ytgdljjoaiogpfaa
