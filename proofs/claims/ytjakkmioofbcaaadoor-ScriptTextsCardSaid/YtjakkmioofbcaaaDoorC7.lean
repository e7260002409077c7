/- Results in memory; the walk over conf. -/
import Derived.Test.YtjakkmioofbcaaaDoorC6
import Derived.Laws.CopyOwn
namespace Go.Proofs.YtjakkmioofbcaaaDoor
open Go.RowKit
theorem results_row2 {P : Program} {fn : Func} {p q : Tmp} {ty : TypeId} (h : fn.results = #[.cell p ty, .tmp q]) (tmps : Array Value) (w : World) (g : Nat) (t : TypeId) (cs : Array Value) (fr : Nat × Nat) (d : TypeDesc)
    (hp : tmps.getD p undef = .pointer (some ⟨g, 0, none⟩)) (hg : w.heap[g]? = some (.cells cs t fr))
    (hu : P.underlying ty = some d) (hd : (match d with | .struct _ | .array _ _ => true | _ => false) = true) (hi : (P.info? ty).map (·.size) = some cs.size) :
    (results fn tmps).run P w = .ok (.tuple #[.agg cs, tmps.getD q undef]) w := by
  have hp' : tmps[p]?.getD undef = .pointer (some ⟨g, 0, none⟩) := by simpa using hp
  simp [results, h, hp', asAddr, run_loadVar_row w g t ty cs fr d hg hu hd hi]
/-- the first k of the numbers, and zeros -/
def cAt (ns : Fin 13 → Int) (k : Nat) : Fin 13 → Int := fun i => if i.1 < k then ns i else 0
theorem cAt_zero (ns : Fin 13 → Int) : cAt ns 0 = c0 := by funext i; simp [cAt, c0]
theorem cAt_full (ns : Fin 13 → Int) : cAt ns 13 = ns := by funext i; simp [cAt]
theorem cAt_set (ns : Fin 13 → Int) (i : Fin 13) : (cfL (cAt ns i.1)).toArray.setIfInBounds i.1 (.int .i64 (ns i)) = (cfL (cAt ns (i.1 + 1))).toArray := by
  match i with
  | 0 => rfl
  | 1 => rfl
  | 2 => rfl
  | 3 => rfl
  | 4 => rfl
  | 5 => rfl
  | 6 => rfl
  | 7 => rfl
  | 8 => rfl
  | 9 => rfl
  | 10 => rfl
  | 11 => rfl
  | 12 => rfl
def nums (ws : List (List UInt8)) : Fin 13 → Int := fun i => ((cnt (ws.getD i.1 [])).1 : Int)
def confP (ws : List (List UInt8)) : Option (Fin 13 → Int) := if ws.length = 13 ∧ ws.all (fun x => (cnt x).2) = true then some (nums ws) else none
def confV (o : Option (Fin 13 → Int)) : Value := match o with | some c => .tuple #[.agg (cfL c).toArray, .bool true] | none => .tuple #[.agg (cfL c0).toArray, .bool false]
theorem cnt_nonneg (l : List UInt8) : (cnt l).1 ≤ 2147483647 := by
  have key : ∀ (l : List UInt8) (n m : Nat), n ≤ 2147483647 → cntGo l n = some m → m ≤ 2147483647 := by
    intro l
    induction l with
    | nil => intro n m hn h; simp [cntGo] at h; omega
    | cons c r ih =>
      intro n m hn h
      rw [cntGo] at h
      split at h
      · cases h
      · split at h
        · cases h
        · exact ih _ _ (by omega) h
  unfold cnt
  split
  · simp
  · rename_i n h
    exact key l 0 n (by omega) h
set_option maxRecDepth 100000 in
set_option maxHeartbeats 1000000 in
theorem conf32 (v : Value) (ws : List (List UInt8)) (w : World) (hw : Ws w v ws) (hx : ∀ x ∈ ws, x.length ≤ 1000000) :
    Calls Tryd.prog 42 #[v] w fun e w' => e = .returned (confV (confP ws)) ∧ Below w.heap.size w w' := by
  obtain ⟨A, cp, rfl⟩ := hw.1
  have HWS := Lib.hid hw
  have HX := Lib.hid hx
  clear hw hx
  have HB3 := Lib.hid (bdrew ((((Below.refl w.heap.size w).alloc (Nat.le_refl _) (.cells (cfA c0) 23)).alloc (by simp) (.cells (cfA c0) 23)).alloc (by simp; omega) (.cells (ptA (w.heap.size + 1) 0) 96)))
  have h0 : ((((w.alloc (.cells (cfA c0) 23)).alloc (.cells (cfA c0) 23)).alloc (.cells (ptA (w.heap.size + 1) 0) 96)).drew).heap[w.heap.size]? = some (.cells (cfL c0).toArray 23 (0, 0)) :=
    (Below.heap_alloc _ _ _ (by simp; omega)).trans ((Below.heap_alloc _ _ _ (by simp)).trans (heap_alloc_new w (.cells (cfA c0) 23)))
  have h1 : ((((w.alloc (.cells (cfA c0) 23)).alloc (.cells (cfA c0) 23)).alloc (.cells (ptA (w.heap.size + 1) 0) 96)).drew).heap[w.heap.size + 1]? = some (.cells (cfL c0).toArray 23 (0, 0)) :=
    (Below.heap_alloc _ _ _ (by simp)).trans (by have := heap_alloc_new (w.alloc (.cells (cfA c0) 23)) (.cells (cfA c0) 23); rwa [World.size_alloc] at this)
  have h2 : ((((w.alloc (.cells (cfA c0) 23)).alloc (.cells (cfA c0) 23)).alloc (.cells (ptA (w.heap.size + 1) 0) 96)).drew).heap[w.heap.size + 2]? = some (.cells (ptA (w.heap.size + 1) 0) 96 (0, 0)) := by
    have := heap_alloc_new ((w.alloc (.cells (cfA c0) 23)).alloc (.cells (cfA c0) 23)) (.cells (ptA (w.heap.size + 1) 0) 96)
    rwa [World.size_alloc, World.size_alloc] at this
  have HIC : Hid (∀ c, (Tryd.prog.info? 23).map (·.size) = some (cfL c).toArray.size) := Lib.hid (fun c => info28)
  have HICL : Hid (∀ c, (Tryd.prog.info? 23).map (·.size) = some (cfL c).length) := Lib.hid (fun c => info28)
  have HO : Hid (∀ c, (cfL c).toArray.all (·.oneCell') = true) := Lib.hid (fun c => by simp [cfL, Value.oneCell'])
  have HZ : Hid (cfA c0 = #[.int .i64 0, .int .i64 0, .int .i64 0, .int .i64 0, .int .i64 0, .int .i64 0, .int .i64 0, .int .i64 0, .int .i64 0, .int .i64 0, .int .i64 0, .int .i64 0, .int .i64 0]) := Lib.hid rfl
  rw [HZ.out] at HB3 h0 h1 h2
  have H0 := Lib.hid h0
  have H1 := Lib.hid h1
  have H2 := Lib.hid h2
  clear h0 h1 h2 HZ
  by_cases h13 : ws.length = 13
  case neg =>
    have hne : ((ws.length : Int) != 13) = true := by simp only [bne_iff_ne, ne_eq]; omega
    have hP : confP ws = none := by rw [confP, if_neg (fun h => h13 h.1)]
    rw [hP]
    clear h13 hP
    go_enter Tryd.func42, Tryd.ntmps42
    go_wp2_with fail
    refine Calls.mono (numbers48 _ _) ?_
    rintro e w1 ⟨rfl, rfl⟩
    go_wp2_with (first
      | ((with_reducible refine wpList_load_midg (op := ⟨some 16, _, _, _, _, _⟩) ?_ 23 (.tmp 4) rfl (w.heap.size + 1) 0 ?_ (cfL c0) _ (range_of_row H1.out) Tryd.underlying23 rfl (HICL.out c0) ?_); kernel_rfl; rfl)
      | ((with_reducible refine wpList_store_row (o := ⟨none, _, _, _, _, _⟩) rfl 23 (.tmp 2) (.tmp 16) rfl w.heap.size (cfL c0).toArray ?_ ?_ 23 (cfL c0).toArray H0.out (HIC.out c0) rfl (HO.out c0) ?_); rfl; rfl))
    exact bodyPost_ret (results_row2 rfl _ _ w.heap.size 23 (cfL c0).toArray (0, 0) _ rfl (setRow_heap _ _ _ _ _ _ H0.out) Tryd.underlying23 rfl (HIC.out _)) rfl ⟨rfl, below_setRow HB3.out (Nat.le_refl _) _⟩
  have hne : ((ws.length : Int) != 13) = false := by simp; omega
  have HW0 : Hid (∀ k, k < 13 → k < ws.length) := Lib.hid (fun k hk => by omega)
  have H13 := Lib.hid h13
  go_enter Tryd.func42, Tryd.ntmps42
  go_wp2_with fail
  refine Calls.mono (numbers48 _ _) ?_
  rintro e w1 ⟨rfl, rfl⟩
  go_wp2_with fail
  generalize hW2 : ((((w.alloc (.cells #[.int .i64 0, .int .i64 0, .int .i64 0, .int .i64 0, .int .i64 0, .int .i64 0, .int .i64 0, .int .i64 0, .int .i64 0, .int .i64 0, .int .i64 0, .int .i64 0, .int .i64 0] 23)).alloc (.cells #[.int .i64 0, .int .i64 0, .int .i64 0, .int .i64 0, .int .i64 0, .int .i64 0, .int .i64 0, .int .i64 0, .int .i64 0, .int .i64 0, .int .i64 0, .int .i64 0, .int .i64 0] 23)).alloc (.cells (ptA (w.heap.size + 1) 0) 96)).drew) = w2 at *
  clear hW2
  go_loopg [19] 13 (fun gk i wr => ∃ k : Nat, k ≤ 13 ∧ gk = 13 - k ∧ i = .int .i64 k ∧ (∀ j, j < k → (cnt (ws.getD j [])).2 = true) ∧ wr.heap[w.heap.size]? = some (.cells (cfL c0).toArray 23 (0, 0)) ∧ wr.heap[w.heap.size + 1]? = some (.cells (cfL (cAt (nums ws) k)).toArray 23 (0, 0)) ∧ wr.heap[w.heap.size + 2]? = some (.cells (ptA (w.heap.size + 1) 0) 96 (0, 0)) ∧ Below w.heap.size w wr)
  case atStart => exact ⟨0, Nat.zero_le _, rfl, rfl, by omega, H0.out, by rw [cAt_zero]; exact H1.out, H2.out, HB3.out⟩
  case round =>
    obtain ⟨k, hk, hgk, rfl, hall, r0, r1, r2, hb⟩ := hrel
    have HK := Lib.hid hgk
    have HALL := Lib.hid hall
    have R0 := Lib.hid r0
    have R1 := Lib.hid r1
    have R2 := Lib.hid r2
    have HB := Lib.hid hb
    clear hgk hall hb
    by_cases hkl : k < 13
    · obtain ⟨b, o, c', e, hlt, _, hc⟩ := (HWS.out.below (Nat.le_refl _) HB.out).2 (by intro e; have := H13.out; rw [e] at this; simp at this)
      injection e with e1 e2 e3
      subst e1
      subst e3
      have hcell := hc k (HW0.out k hkl)
      have hk1 : (k : Int) < (ws.length : Int) := by have := HW0.out k hkl; omega
      have hk2 : (k : Int) < 13 := by omega
      have hpt := pt_cell2 r2 ⟨k, hkl⟩
      have hcc := cf_cell r1 ⟨k, hkl⟩
      simp only at hpt hcc
      have hfz : wr.frozen? ⟨w.heap.size + 1, k, none⟩ = false := by simp [World.frozen?, r1]
      have hxl : (ws.getD k []).length ≤ 1000000 := HX.out _ (by have := HW0.out k hkl; simp [List.getD, this])
      have HC := Lib.hid (count30 (ws.getD k []) hxl)
      have HNK : Hid (nums ws ⟨k, hkl⟩ = ((cnt (ws.getD k [])).1 : Int)) := Lib.hid rfl
      clear hc e2 r0 r1 r2
      have HEX : Hid (∃ x, ws.getD k [] = x) := Lib.hid ⟨_, rfl⟩
      obtain ⟨x, hx⟩ := HEX.out
      have HXE := Lib.hid hx
      rw [hx] at hcell HC HNK hxl
      clear hx HEX
      cases hok : (cnt x).2
      · have hP : confP ws = none := by
          rw [confP, if_neg]
          intro h
          have := List.all_eq_true.1 h.2 (ws.getD k []) (by have := HW0.out k hkl; simp [List.getD, this])
          rw [HXE.out, hok] at this
          cases this
        have HPN := Lib.hid hP
        rw [show cntV x = .tuple #[.int .i64 ((cnt x).1 : Int), .bool false] by rw [cntV, hok]] at HC
        generalize ((cnt x).1 : Int) = nn at *
        clear hok hP
        go_wp2_with (first
          | (go_at_call 41; (with_reducible refine (HC.out _).mono ?_); rintro e w3 ⟨rfl, rfl⟩)
          | ((with_reducible refine wpList_store_row (o := ⟨none, _, _, _, _, _⟩) rfl 23 (.tmp 2) (.tmp 31) rfl w.heap.size (cfL c0).toArray ?_ ?_ 23 (cfL c0).toArray R0.out (HIC.out c0) rfl (HO.out c0) ?_); rfl; rfl))
        rw [HPN.out]
        exact bodyPost_ret (results_row2 rfl _ _ w.heap.size 23 (cfL c0).toArray (0, 0) _ rfl (setRow_heap _ _ _ _ _ _ R0.out) Tryd.underlying23 rfl (HIC.out _)) rfl ⟨rfl, below_setRow HB.out (Nat.le_refl _) _⟩
      · rw [show cntV x = .tuple #[.int .i64 ((cnt x).1 : Int), .bool true] by rw [cntV, hok]] at HC
        have HOK := Lib.hid hok
        rw [← HNK.out] at HC
        generalize hnn : nums ws ⟨k, hkl⟩ = nn at *
        have HNN := Lib.hid hnn
        clear hok hnn HNK
        go_wp2_with (first
          | (go_at_call 41; (with_reducible refine (HC.out _).mono ?_); rintro e w3 ⟨rfl, rfl⟩))
        go_roundg (13 - (k + 1))
        case measure => rw [HK.out]; omega
        case rel =>
          refine ⟨k + 1, by omega, rfl, by go_num, ?_, ?_, ?_, ?_, HB.out.setCell (by simp) _⟩
          · intro j hj
            by_cases e : j = k
            · subst e; rw [HXE.out]; exact HOK.out
            · exact HALL.out j (by omega)
          · rw [heap_setCell_other _ _ _ _ (by simp)]; exact R0.out
          · rw [Go.heap_setCell_same _ _ _ _ _ _ R1.out, ← HNN.out]
            have := cAt_set (nums ws) ⟨k, hkl⟩
            rw [this]
          · rw [heap_setCell_other _ _ _ _ (by simp)]; exact R2.out
    · obtain rfl : k = 13 := by omega
      have hA : ws.all (fun x => (cnt x).2) = true := by
        apply List.all_eq_true.2
        intro x hx
        obtain ⟨j, hj, e⟩ := List.getElem_of_mem hx
        have h := HALL.out j (by have := H13.out; omega)
        rw [show ws.getD j [] = ws[j] by simp [List.getD, hj], e] at h
        exact h
      have hP : confP ws = some (nums ws) := by
        unfold confP
        exact if_pos ⟨H13.out, hA⟩
      have HPN := Lib.hid hP
      have R1b : Hid (wr.heap[w.heap.size + 1]? = some (.cells (cfL (nums ws)).toArray 23 (0, 0))) := Lib.hid (by have := R1.out; rwa [cAt_full] at this)
      clear hP r0 r1 r2
      generalize nums ws = ns at *
      go_wp2_with (first
        | ((with_reducible refine wpList_load_midg (op := ⟨some 39, _, _, _, _, _⟩) ?_ 23 (.tmp 4) rfl (w.heap.size + 1) 0 ?_ (cfL ns) _ (range_of_row R1b.out) Tryd.underlying23 rfl (HICL.out ns) ?_); kernel_rfl; rfl)
        | ((with_reducible refine wpList_store_row (o := ⟨none, _, _, _, _, _⟩) rfl 23 (.tmp 2) (.tmp 39) rfl w.heap.size (cfL ns).toArray ?_ ?_ 23 (cfL c0).toArray R0.out (HIC.out ns) rfl (HO.out ns) ?_); rfl; rfl))
      rw [HPN.out]
      exact bodyPost_ret (results_row2 rfl _ _ w.heap.size 23 (cfL ns).toArray (0, 0) _ rfl (setRow_heap _ _ _ _ _ _ R0.out) Tryd.underlying23 rfl (HIC.out _)) rfl ⟨rfl, below_setRow HB.out (Nat.le_refl _) _⟩
end Go.Proofs.YtjakkmioofbcaaaDoor
