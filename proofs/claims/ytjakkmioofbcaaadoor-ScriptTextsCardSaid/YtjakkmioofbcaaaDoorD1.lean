/- The plain words of step; the walk over step at fuse. -/
import Derived.Test.YtjakkmioofbcaaaDoorC9
import Derived.Deep.RegionWith
namespace Go.Proofs.YtjakkmioofbcaaaDoor
open Go.RowKit
def fin (s : St) : Option St := if mayB s then some s else none
def keepOf (x : List UInt8) : List Bool := if x = [45] then [] else x.map fun c => decide (c = 49)
def stepP (ws : List (List UInt8)) : Option St :=
  if ws.getD 0 [] = fuseW then (if ws.length = 2 ∧ (cnt (ws.getD 1 [])).2 = true then fin ⟨2, 0, [], [], ((cnt (ws.getD 1 [])).1 : Int), [], c0⟩ else none)
  else if ws.getD 0 [] = powerW then (if ws.length = 2 ∧ tru (keepOf (ws.getD 1 [])) = ws.getD 1 [] then fin ⟨3, 0, [], [], 0, keepOf (ws.getD 1 []), c0⟩ else none)
  else if ws.getD 0 [] = confW then (match confP ws.tail with | some c => fin ⟨4, 0, [], [], 0, [], c⟩ | none => none)
  else match calledP ws with | some (op, nm, dt) => fin ⟨1, op, nm, dt, 0, [], c0⟩ | none => none
def St.L (s : St) (K : Value) : List Value := stL s.k s.op s.nm s.dt s.n K s.c
theorem own_lo {w : World} {base n e size c m : Nat} {A : Option Addr} {xs : List Value} (h : w.ownsRow base e size (.slice A m c) n xs) : ∀ a : Addr, A = some a → base ≤ a.block := by
  intro a ha
  rcases h.2 with ⟨h2, _⟩ | ⟨g, cap, cur, h2, hg, _⟩
  · injection h2 with h2; rw [h2] at ha; cases ha
  · injection h2 with h2; rw [h2] at ha; injection ha with ha; subst ha; exact hg
theorem noA {B : Nat} : ∀ a : Addr, (none : Option Addr) = some a → B ≤ a.block := fun _ h => by cases h
def StepEnd (B : Nat) (ws : List (List UInt8)) (e : Ending) (w' : World) : Prop := ∃ (s : St) (A : Option Addr) (cap : Nat), Kp w' (.slice A s.kp.length cap) s.kp ∧ (∀ a, A = some a → B ≤ a.block) ∧ Fits s ∧ ((e = .returned (.tuple #[.agg (s.L (.slice A s.kp.length cap)).toArray, .bool true]) ∧ stepP ws = some s) ∨ (e = .returned (.tuple #[.agg (s.L (.slice A s.kp.length cap)).toArray, .bool false]) ∧ stepP ws = none))
theorem ready1 {P : Program} {md : Region.Mode} {ops : Array Oper} {Q : Exit → Act → World → Prop} {S : World → Prop} {fuel : Nat} {listed : Array Bool} {a : Act} {w : World} {i : Nat} {o : Oper} (ho : ops[i]? = some o) (hw : Region.wanted o (yielded ops a.tmps) = true)
    (h : ∀ K' : Act → World → Prop, Shut (∀ a w, S w → (S w → wpAnyH P md ops Q S fuel (listed.setIfInBounds i true) a w) → K' a w) → Oper.wp P o a w K' Q) : AllReadyH P md ops Q S fuel listed a w [i] :=
  AllReadyH.cons ho (fun K' hK => by rw [if_pos hw]; exact h K' hK) AllReadyH.nil
def op0 : Oper := ⟨none, .move (.tmp 0), 0, "", #[], none⟩
theorem store_ready {P : Program} {md : Region.Mode} {ops : Array Oper} {Q : Exit → Act → World → Prop} {S : World → Prop} {fuel : Nat} {listed : Array Bool} {a : Act} {w : World} (i : Nat) (hr : Region.ready md ops listed = [i]) (hi : decide (i < ops.size) = true) (hw : Region.wanted (ops.getD i op0) (yielded ops a.tmps) = true)
    (ty : TypeId) (x y : Operand) (hop : (ops.getD i op0).op = .store ty x y) (hd : (ops.getD i op0).dst = none) (g : Nat) (cells : Array Value) (hx : a.eval x = .pointer (some ⟨g, 0, none⟩)) (hy : a.eval y = .agg cells)
    (t : TypeId) (old : Array Value) (hg : w.heap[g]? = some (.cells old t (0, 0))) (hz : (P.info? ty).map (·.size) = some cells.size) (hold : old.size = cells.size) (h1 : cells.all (·.oneCell') = true)
    (hS : S (w.setRow g cells)) (h : S (w.setRow g cells) → wpAnyH P md ops Q S fuel (listed.setIfInBounds i true) a (w.setRow g cells)) : wpAnyH P md ops Q S (fuel + 1) listed a w := by
  have hi' : i < ops.size := by simpa using hi
  have ho : ops[i]? = some (ops.getD i op0) := by simp [Array.getD, hi']
  refine wpAnyH_ready hr (by simp) (ready1 ho hw (fun K' hK => wp_store_row ty x y hop g cells hx hy t old hg hz hold h1 ?_))
  rw [hd]
  exact hK.out _ _ hS h
theorem setRow_cell_other {w : World} {g k j : Nat} {cs : Array Value} (h : k ≠ g) : (w.setRow g cs).cell? ⟨k, j, none⟩ = w.cell? ⟨k, j, none⟩ := by simp [World.cell?, setRow_other _ _ _ _ h]
theorem stL_one (k op : Int) (nm dt : List UInt8) (n : Int) (A : Option Addr) (l c : Nat) (cc : Fin 13 → Int) : (stL k op nm dt n (.slice A l c) cc).toArray.all (·.oneCell') = true := by simp [stL, Value.oneCell']
set_option maxRecDepth 100000 in
set_option maxHeartbeats 2000000 in
theorem step17_fuse (v : Value) (ws : List (List UInt8)) (w : World) (hw : Ws w v ws) (h0 : ws ≠ []) (hx : ∀ x ∈ ws, x.length ≤ 100000) (hkk : ws.getD 0 [] = fuseW) :
    Calls Tryd.prog 43 #[v] w fun e w' => StepEnd w.heap.size ws e w' ∧ Below w.heap.size w w' := by
  obtain ⟨b, o, cp, rfl, hlt, hcap, hc⟩ := hw.2 h0
  have HWS := Lib.hid hw
  have HC := Lib.hid hc
  have HX := Lib.hid hx
  have HLT := Lib.hid hlt
  have hlen : 0 < ws.length := List.length_pos_iff.2 h0
  have hlenI : (0 : Int) < (ws.length : Int) := by omega
  have HEX : Hid (∃ x, ws.getD 0 [] = x) := Lib.hid ⟨_, rfl⟩
  obtain ⟨x0, hx0⟩ := HEX.out
  have HCE0 : Hid (∀ W, Below w.heap.size w W → W.cell? ⟨b, o, none⟩ = some (.string (str x0))) := Lib.hid (fun W hb => by
    have := hc 0 hlen
    rw [hx0, Nat.add_zero] at this
    rw [hb.cell (p := ⟨b, o, none⟩) hlt]
    exact this)
  have HB2 : Hid (Below w.heap.size w ((w.alloc (.cells #[.int .i64 0, .int .i64 0, .string ⟨#[]⟩, .string ⟨#[]⟩, .int .i64 0, .slice none 0 0, .int .i64 0, .int .i64 0, .int .i64 0, .int .i64 0, .int .i64 0, .int .i64 0, .int .i64 0, .int .i64 0, .int .i64 0, .int .i64 0, .int .i64 0, .int .i64 0, .int .i64 0] 44)).alloc (.cells #[.int .i64 0, .int .i64 0, .string ⟨#[]⟩, .string ⟨#[]⟩, .int .i64 0, .slice none 0 0, .int .i64 0, .int .i64 0, .int .i64 0, .int .i64 0, .int .i64 0, .int .i64 0, .int .i64 0, .int .i64 0, .int .i64 0, .int .i64 0, .int .i64 0, .int .i64 0, .int .i64 0] 44))) := Lib.hid (((Below.refl _ _).alloc (Nat.le_refl _) _).alloc (by simp) _)
  have hc2 := HCE0.out _ HB2.out
  rw [hx0] at hkk
  have HX0 := Lib.hid hx0
  clear hc hx hw hx0 HEX hlt
  subst hkk
  have t1 : ((str fuseW).toList == [102, 117, 115, 101]) = true := by rw [str_toList]; rfl
  have HB3 : Hid (Below w.heap.size w ((w.alloc (.cells #[.int .i64 0, .int .i64 0, .string ⟨#[]⟩, .string ⟨#[]⟩, .int .i64 0, .slice none 0 0, .int .i64 0, .int .i64 0, .int .i64 0, .int .i64 0, .int .i64 0, .int .i64 0, .int .i64 0, .int .i64 0, .int .i64 0, .int .i64 0, .int .i64 0, .int .i64 0, .int .i64 0] 44)).alloc (.cells #[.int .i64 2, .int .i64 0, .string ⟨#[]⟩, .string ⟨#[]⟩, .int .i64 0, .slice none 0 0, .int .i64 0, .int .i64 0, .int .i64 0, .int .i64 0, .int .i64 0, .int .i64 0, .int .i64 0, .int .i64 0, .int .i64 0, .int .i64 0, .int .i64 0, .int .i64 0, .int .i64 0] 44))) := Lib.hid (((Below.refl _ _).alloc (Nat.le_refl _) _).alloc (by simp) _)
  by_cases h2 : ws.length = 2
  case neg =>
    have hl2 : ((ws.length : Int) == 2) = false := by simp only [beq_eq_false_iff_ne]; omega
    have HP : Hid (stepP ws = none) := Lib.hid (by rw [stepP, HX0.out, if_pos rfl, if_neg (fun h => h2 h.1)])
    have HEL : Hid (∃ L, stL 2 0 [] [] 0 (.slice none 0 0) c0 = L) := Lib.hid ⟨_, rfl⟩
    obtain ⟨L, hL⟩ := HEL.out
    have HLL : Hid (stL 2 0 [] [] 0 (.slice none 0 0) c0 = L) := Lib.hid hL
    have HIL : Hid ((Tryd.prog.info? 44).map (·.size) = some L.length) := Lib.hid (by rw [← hL]; exact info30)
    have HIL2 : Hid ((Tryd.prog.info? 44).map (·.size) = some L.toArray.size) := Lib.hid (by rw [← hL]; exact info30)
    have HOS : Hid ((#[.int .i64 0, .int .i64 0, .string ⟨#[]⟩, .string ⟨#[]⟩, .int .i64 0, .slice none 0 0, .int .i64 0, .int .i64 0, .int .i64 0, .int .i64 0, .int .i64 0, .int .i64 0, .int .i64 0, .int .i64 0, .int .i64 0, .int .i64 0, .int .i64 0, .int .i64 0, .int .i64 0] : Array Value).size = L.toArray.size) := Lib.hid (by rw [← hL]; rfl)
    have HOL : Hid (L.toArray.all (·.oneCell') = true) := Lib.hid (by rw [← hL]; exact stL_one _ _ _ _ _ _ _ _ _)
    have HRL : Hid (((w.alloc (.cells #[.int .i64 0, .int .i64 0, .string ⟨#[]⟩, .string ⟨#[]⟩, .int .i64 0, .slice none 0 0, .int .i64 0, .int .i64 0, .int .i64 0, .int .i64 0, .int .i64 0, .int .i64 0, .int .i64 0, .int .i64 0, .int .i64 0, .int .i64 0, .int .i64 0, .int .i64 0, .int .i64 0] 44)).alloc (.cells #[.int .i64 2, .int .i64 0, .string ⟨#[]⟩, .string ⟨#[]⟩, .int .i64 0, .slice none 0 0, .int .i64 0, .int .i64 0, .int .i64 0, .int .i64 0, .int .i64 0, .int .i64 0, .int .i64 0, .int .i64 0, .int .i64 0, .int .i64 0, .int .i64 0, .int .i64 0, .int .i64 0] 44)).rangeAt (w.heap.size + 1) 0 L) := Lib.hid (by rw [← hL]; exact range_of_row (by have := heap_alloc_new (w.alloc (.cells #[.int .i64 0, .int .i64 0, .string ⟨#[]⟩, .string ⟨#[]⟩, .int .i64 0, .slice none 0 0, .int .i64 0, .int .i64 0, .int .i64 0, .int .i64 0, .int .i64 0, .int .i64 0, .int .i64 0, .int .i64 0, .int .i64 0, .int .i64 0, .int .i64 0, .int .i64 0, .int .i64 0] 44)) (.cells (stL 2 0 [] [] 0 (.slice none 0 0) c0).toArray 44); rwa [World.size_alloc] at this))
    clear hL HEL
    have HBW : Hid (Below w.heap.size w ((w.alloc (.cells #[.int .i64 0, .int .i64 0, .string ⟨#[]⟩, .string ⟨#[]⟩, .int .i64 0, .slice none 0 0, .int .i64 0, .int .i64 0, .int .i64 0, .int .i64 0, .int .i64 0, .int .i64 0, .int .i64 0, .int .i64 0, .int .i64 0, .int .i64 0, .int .i64 0, .int .i64 0, .int .i64 0] 44)).alloc (.cells #[.int .i64 2, .int .i64 0, .string ⟨#[]⟩, .string ⟨#[]⟩, .int .i64 0, .slice none 0 0, .int .i64 0, .int .i64 0, .int .i64 0, .int .i64 0, .int .i64 0, .int .i64 0, .int .i64 0, .int .i64 0, .int .i64 0, .int .i64 0, .int .i64 0, .int .i64 0, .int .i64 0] 44))) := Lib.hid (((Below.refl _ _).alloc (Nat.le_refl _) _).alloc (by simp) _)
    have HGR : Hid (((w.alloc (.cells #[.int .i64 0, .int .i64 0, .string ⟨#[]⟩, .string ⟨#[]⟩, .int .i64 0, .slice none 0 0, .int .i64 0, .int .i64 0, .int .i64 0, .int .i64 0, .int .i64 0, .int .i64 0, .int .i64 0, .int .i64 0, .int .i64 0, .int .i64 0, .int .i64 0, .int .i64 0, .int .i64 0] 44)).alloc (.cells #[.int .i64 2, .int .i64 0, .string ⟨#[]⟩, .string ⟨#[]⟩, .int .i64 0, .slice none 0 0, .int .i64 0, .int .i64 0, .int .i64 0, .int .i64 0, .int .i64 0, .int .i64 0, .int .i64 0, .int .i64 0, .int .i64 0, .int .i64 0, .int .i64 0, .int .i64 0, .int .i64 0] 44)).heap[w.heap.size]? = some (.cells #[.int .i64 0, .int .i64 0, .string ⟨#[]⟩, .string ⟨#[]⟩, .int .i64 0, .slice none 0 0, .int .i64 0, .int .i64 0, .int .i64 0, .int .i64 0, .int .i64 0, .int .i64 0, .int .i64 0, .int .i64 0, .int .i64 0, .int .i64 0, .int .i64 0, .int .i64 0, .int .i64 0] 44 (0, 0))) := Lib.hid ((Below.heap_alloc _ _ _ (by simp)).trans (heap_alloc_new w _))
    have HSLT : Hid (w.heap.size + 1 < ((w.alloc (.cells #[.int .i64 0, .int .i64 0, .string ⟨#[]⟩, .string ⟨#[]⟩, .int .i64 0, .slice none 0 0, .int .i64 0, .int .i64 0, .int .i64 0, .int .i64 0, .int .i64 0, .int .i64 0, .int .i64 0, .int .i64 0, .int .i64 0, .int .i64 0, .int .i64 0, .int .i64 0, .int .i64 0] 44)).alloc (.cells #[.int .i64 2, .int .i64 0, .string ⟨#[]⟩, .string ⟨#[]⟩, .int .i64 0, .slice none 0 0, .int .i64 0, .int .i64 0, .int .i64 0, .int .i64 0, .int .i64 0, .int .i64 0, .int .i64 0, .int .i64 0, .int .i64 0, .int .i64 0, .int .i64 0, .int .i64 0, .int .i64 0] 44)).drew.heap.size) := Lib.hid (by simp)
    have HRLT : Hid (w.heap.size < ((w.alloc (.cells #[.int .i64 0, .int .i64 0, .string ⟨#[]⟩, .string ⟨#[]⟩, .int .i64 0, .slice none 0 0, .int .i64 0, .int .i64 0, .int .i64 0, .int .i64 0, .int .i64 0, .int .i64 0, .int .i64 0, .int .i64 0, .int .i64 0, .int .i64 0, .int .i64 0, .int .i64 0, .int .i64 0] 44)).alloc (.cells #[.int .i64 2, .int .i64 0, .string ⟨#[]⟩, .string ⟨#[]⟩, .int .i64 0, .slice none 0 0, .int .i64 0, .int .i64 0, .int .i64 0, .int .i64 0, .int .i64 0, .int .i64 0, .int .i64 0, .int .i64 0, .int .i64 0, .int .i64 0, .int .i64 0, .int .i64 0, .int .i64 0] 44)).drew.heap.size) := Lib.hid (by simp; omega)
    clear h2
    go_enter Tryd.func43, Tryd.ntmps43
    go_wp2_with fail
    refine wp_region_held_drew (S := fun W => W.rangeAt (w.heap.size + 1) 0 L) (by kernel_rfl) HRL.out (fun hSx => ?_)
    refine wpAnyH_take (i := 0) (oi := ⟨some 84, _, _, _, _, none⟩) (v := .agg L.toArray) rfl (by kernel_rfl) (by kernel_rfl) (by kernel_rfl) (fun _ _ _ h => h) (yieldsIf_load_mid (by kernel_rfl) 44 (.tmp 4) rfl (w.heap.size + 1) 0 rfl L _ (fun W hW => hW) Tryd.underlying44 rfl HIL.out) hSx ?_
    try simp only [Act.put, List.setIfInBounds_toArray]
    refine wpAnyH_take (i := 1) (oi := ⟨some 85, _, _, _, _, none⟩) (v := .bool false) rfl (by kernel_rfl) (by kernel_rfl) (by kernel_rfl) (fun _ _ _ h => h) (Or.inl ⟨by kernel_rfl, ?_⟩) hSx ?_
    · intro wx hSx2; clear hSx; go_simp
    try simp only [Act.put, List.setIfInBounds_toArray]
    refine wpAnyH_take (i := 2) (oi := ⟨some 86, _, _, _, _, none⟩) (v := .bool false) rfl (by kernel_rfl) (by kernel_rfl) (by kernel_rfl) (fun _ _ _ h => h) (Or.inl ⟨by kernel_rfl, ?_⟩) hSx ?_
    · intro wx hSx2; clear hSx; go_simp
    try simp only [Act.put, List.setIfInBounds_toArray]
    refine wpAnyH_take (i := 3) (oi := ⟨some 87, _, _, _, _, some (2, true)⟩) (v := undef) rfl (by kernel_rfl) (by kernel_rfl) (by kernel_rfl) (fun _ _ _ h => h) (Or.inr ⟨by kernel_rfl, rfl⟩) hSx ?_
    try simp only [Act.put, List.setIfInBounds_toArray]
    refine wpAnyH_take (i := 4) (oi := ⟨some 88, _, _, _, _, some (2, true)⟩) (v := undef) rfl (by kernel_rfl) (by kernel_rfl) (by kernel_rfl) (fun _ _ _ h => h) (Or.inr ⟨by kernel_rfl, rfl⟩) hSx ?_
    try simp only [Act.put, List.setIfInBounds_toArray]
    refine wpAnyH_take (i := 5) (oi := ⟨some 89, _, _, _, _, some (2, true)⟩) (v := undef) rfl (by kernel_rfl) (by kernel_rfl) (by kernel_rfl) (fun _ _ _ h => h) (Or.inr ⟨by kernel_rfl, rfl⟩) hSx ?_
    try simp only [Act.put, List.setIfInBounds_toArray]
    refine wpAnyH_take (i := 6) (oi := ⟨some 90, _, _, _, _, none⟩) (v := .bool false) rfl (by kernel_rfl) (by kernel_rfl) (by kernel_rfl) (fun _ _ _ h => h) (Or.inl ⟨by kernel_rfl, ?_⟩) hSx ?_
    · intro wx hSx2; clear hSx; go_simp
    try simp only [Act.put, List.setIfInBounds_toArray]
    have HGZ : Hid ((((w.alloc (.cells #[.int .i64 0, .int .i64 0, .string ⟨#[]⟩, .string ⟨#[]⟩, .int .i64 0, .slice none 0 0, .int .i64 0, .int .i64 0, .int .i64 0, .int .i64 0, .int .i64 0, .int .i64 0, .int .i64 0, .int .i64 0, .int .i64 0, .int .i64 0, .int .i64 0, .int .i64 0, .int .i64 0] 44)).alloc (.cells #[.int .i64 2, .int .i64 0, .string ⟨#[]⟩, .string ⟨#[]⟩, .int .i64 0, .slice none 0 0, .int .i64 0, .int .i64 0, .int .i64 0, .int .i64 0, .int .i64 0, .int .i64 0, .int .i64 0, .int .i64 0, .int .i64 0, .int .i64 0, .int .i64 0, .int .i64 0, .int .i64 0] 44))).drew.heap[w.heap.size]? = some (.cells #[.int .i64 0, .int .i64 0, .string ⟨#[]⟩, .string ⟨#[]⟩, .int .i64 0, .slice none 0 0, .int .i64 0, .int .i64 0, .int .i64 0, .int .i64 0, .int .i64 0, .int .i64 0, .int .i64 0, .int .i64 0, .int .i64 0, .int .i64 0, .int .i64 0, .int .i64 0, .int .i64 0] 44 (0, 0))) := HGR
    have HBZ : Hid (Below w.heap.size w (((w.alloc (.cells #[.int .i64 0, .int .i64 0, .string ⟨#[]⟩, .string ⟨#[]⟩, .int .i64 0, .slice none 0 0, .int .i64 0, .int .i64 0, .int .i64 0, .int .i64 0, .int .i64 0, .int .i64 0, .int .i64 0, .int .i64 0, .int .i64 0, .int .i64 0, .int .i64 0, .int .i64 0, .int .i64 0] 44)).alloc (.cells #[.int .i64 2, .int .i64 0, .string ⟨#[]⟩, .string ⟨#[]⟩, .int .i64 0, .slice none 0 0, .int .i64 0, .int .i64 0, .int .i64 0, .int .i64 0, .int .i64 0, .int .i64 0, .int .i64 0, .int .i64 0, .int .i64 0, .int .i64 0, .int .i64 0, .int .i64 0, .int .i64 0] 44))).drew) := Lib.hid (below_drew HBW.out)
    refine store_ready 7 (by kernel_rfl) (by kernel_rfl) (by kernel_rfl) 44 (.tmp 2) (.tmp 84) (by kernel_rfl) (by kernel_rfl) w.heap.size L.toArray (by kernel_rfl) (by kernel_rfl) 44 _ HGZ.out HIL2.out HOS.out HOL.out (fun j u hj => (setRow_cell_other (by omega)).trans (hSx j u hj)) (fun hSy => ?_)
    clear hSx
    have hSx := hSy
    clear hSy
    try simp only [Act.put, List.setIfInBounds_toArray]
    refine wpAnyH_take (i := 8) (oi := ⟨some 3, _, _, _, _, none⟩) (v := .bool false) rfl (by kernel_rfl) (by kernel_rfl) (by kernel_rfl) (fun _ _ _ h => h) (Or.inl ⟨by kernel_rfl, ?_⟩) hSx ?_
    · intro wx hSx2; clear hSx; go_simp
    try simp only [Act.put, List.setIfInBounds_toArray]
    refine wpAnyH_done (by kernel_rfl) ?_ _
    go_wp2
    refine bodyPost_ret (results_row2 rfl _ _ w.heap.size 44 L.toArray (0, 0) _ rfl (setRow_heap _ _ _ _ _ _ HGZ.out) Tryd.underlying44 rfl HIL2.out) rfl ?_
    exact ⟨⟨⟨2, 0, [], [], 0, [], c0⟩, none, 0, Kp.nil _, noA, ⟨by simp, by simp, by simp⟩, .inr ⟨by rw [← HLL.out]; rfl, HP.out⟩⟩, below_setRow HBZ.out (Nat.le_refl _) _⟩
  have hl2 : ((ws.length : Int) == 2) = true := by simp only [beq_iff_eq]; omega
  have hi1 : (1 : Int) < (ws.length : Int) := by omega
  obtain ⟨x1, hx1⟩ : ∃ x, ws.getD 1 [] = x := ⟨_, rfl⟩
  have hc3 : ((w.alloc (.cells #[.int .i64 0, .int .i64 0, .string ⟨#[]⟩, .string ⟨#[]⟩, .int .i64 0, .slice none 0 0, .int .i64 0, .int .i64 0, .int .i64 0, .int .i64 0, .int .i64 0, .int .i64 0, .int .i64 0, .int .i64 0, .int .i64 0, .int .i64 0, .int .i64 0, .int .i64 0, .int .i64 0] 44)).alloc (.cells #[.int .i64 2, .int .i64 0, .string ⟨#[]⟩, .string ⟨#[]⟩, .int .i64 0, .slice none 0 0, .int .i64 0, .int .i64 0, .int .i64 0, .int .i64 0, .int .i64 0, .int .i64 0, .int .i64 0, .int .i64 0, .int .i64 0, .int .i64 0, .int .i64 0, .int .i64 0, .int .i64 0] 44)).cell? ⟨b, o + 1, none⟩ = some (.string (str x1)) := by rw [HB3.out.cell (p := ⟨b, o + 1, none⟩) HLT.out]; have := HC.out 1 (by omega); rw [hx1] at this; exact this
  have hxl : x1.length ≤ 1000000 := by have := HX.out (ws.getD 1 []) (by simp [List.getD, show 1 < ws.length by omega]); rw [hx1] at this; omega
  have HCN := Lib.hid (count30 x1 hxl)
  cases hok : (cnt x1).2
  · rw [show cntV x1 = .tuple #[.int .i64 ((cnt x1).1 : Int), .bool false] by rw [cntV, hok]] at HCN
    have HP0 : Hid (stepP ws = none) := Lib.hid (by rw [stepP, HX0.out, if_pos rfl, hx1, if_neg (fun h => by rw [hok] at h; cases h.2)])
    generalize ((cnt x1).1 : Int) = nn at *
    have HP : Hid (stepP ws = none) := Lib.hid (HP0.out)
    have HEL : Hid (∃ L, stL 2 0 [] [] nn (.slice none 0 0) c0 = L) := Lib.hid ⟨_, rfl⟩
    obtain ⟨L, hL⟩ := HEL.out
    have HLL : Hid (stL 2 0 [] [] nn (.slice none 0 0) c0 = L) := Lib.hid hL
    have HIL : Hid ((Tryd.prog.info? 44).map (·.size) = some L.length) := Lib.hid (by rw [← hL]; exact info30)
    have HIL2 : Hid ((Tryd.prog.info? 44).map (·.size) = some L.toArray.size) := Lib.hid (by rw [← hL]; exact info30)
    have HOS : Hid ((#[.int .i64 0, .int .i64 0, .string ⟨#[]⟩, .string ⟨#[]⟩, .int .i64 0, .slice none 0 0, .int .i64 0, .int .i64 0, .int .i64 0, .int .i64 0, .int .i64 0, .int .i64 0, .int .i64 0, .int .i64 0, .int .i64 0, .int .i64 0, .int .i64 0, .int .i64 0, .int .i64 0] : Array Value).size = L.toArray.size) := Lib.hid (by rw [← hL]; rfl)
    have HOL : Hid (L.toArray.all (·.oneCell') = true) := Lib.hid (by rw [← hL]; exact stL_one _ _ _ _ _ _ _ _ _)
    have HRL : Hid (((w.alloc (.cells #[.int .i64 0, .int .i64 0, .string ⟨#[]⟩, .string ⟨#[]⟩, .int .i64 0, .slice none 0 0, .int .i64 0, .int .i64 0, .int .i64 0, .int .i64 0, .int .i64 0, .int .i64 0, .int .i64 0, .int .i64 0, .int .i64 0, .int .i64 0, .int .i64 0, .int .i64 0, .int .i64 0] 44)).alloc (.cells #[.int .i64 2, .int .i64 0, .string ⟨#[]⟩, .string ⟨#[]⟩, .int .i64 nn, .slice none 0 0, .int .i64 0, .int .i64 0, .int .i64 0, .int .i64 0, .int .i64 0, .int .i64 0, .int .i64 0, .int .i64 0, .int .i64 0, .int .i64 0, .int .i64 0, .int .i64 0, .int .i64 0] 44)).rangeAt (w.heap.size + 1) 0 L) := Lib.hid (by rw [← hL]; exact range_of_row (by have := heap_alloc_new (w.alloc (.cells #[.int .i64 0, .int .i64 0, .string ⟨#[]⟩, .string ⟨#[]⟩, .int .i64 0, .slice none 0 0, .int .i64 0, .int .i64 0, .int .i64 0, .int .i64 0, .int .i64 0, .int .i64 0, .int .i64 0, .int .i64 0, .int .i64 0, .int .i64 0, .int .i64 0, .int .i64 0, .int .i64 0] 44)) (.cells (stL 2 0 [] [] nn (.slice none 0 0) c0).toArray 44); rwa [World.size_alloc] at this))
    clear hL HEL
    have HBW : Hid (Below w.heap.size w ((w.alloc (.cells #[.int .i64 0, .int .i64 0, .string ⟨#[]⟩, .string ⟨#[]⟩, .int .i64 0, .slice none 0 0, .int .i64 0, .int .i64 0, .int .i64 0, .int .i64 0, .int .i64 0, .int .i64 0, .int .i64 0, .int .i64 0, .int .i64 0, .int .i64 0, .int .i64 0, .int .i64 0, .int .i64 0] 44)).alloc (.cells #[.int .i64 2, .int .i64 0, .string ⟨#[]⟩, .string ⟨#[]⟩, .int .i64 nn, .slice none 0 0, .int .i64 0, .int .i64 0, .int .i64 0, .int .i64 0, .int .i64 0, .int .i64 0, .int .i64 0, .int .i64 0, .int .i64 0, .int .i64 0, .int .i64 0, .int .i64 0, .int .i64 0] 44))) := Lib.hid (((Below.refl _ _).alloc (Nat.le_refl _) _).alloc (by simp) _)
    have HGR : Hid (((w.alloc (.cells #[.int .i64 0, .int .i64 0, .string ⟨#[]⟩, .string ⟨#[]⟩, .int .i64 0, .slice none 0 0, .int .i64 0, .int .i64 0, .int .i64 0, .int .i64 0, .int .i64 0, .int .i64 0, .int .i64 0, .int .i64 0, .int .i64 0, .int .i64 0, .int .i64 0, .int .i64 0, .int .i64 0] 44)).alloc (.cells #[.int .i64 2, .int .i64 0, .string ⟨#[]⟩, .string ⟨#[]⟩, .int .i64 nn, .slice none 0 0, .int .i64 0, .int .i64 0, .int .i64 0, .int .i64 0, .int .i64 0, .int .i64 0, .int .i64 0, .int .i64 0, .int .i64 0, .int .i64 0, .int .i64 0, .int .i64 0, .int .i64 0] 44)).heap[w.heap.size]? = some (.cells #[.int .i64 0, .int .i64 0, .string ⟨#[]⟩, .string ⟨#[]⟩, .int .i64 0, .slice none 0 0, .int .i64 0, .int .i64 0, .int .i64 0, .int .i64 0, .int .i64 0, .int .i64 0, .int .i64 0, .int .i64 0, .int .i64 0, .int .i64 0, .int .i64 0, .int .i64 0, .int .i64 0] 44 (0, 0))) := Lib.hid ((Below.heap_alloc _ _ _ (by simp)).trans (heap_alloc_new w _))
    have HSLT : Hid (w.heap.size + 1 < ((w.alloc (.cells #[.int .i64 0, .int .i64 0, .string ⟨#[]⟩, .string ⟨#[]⟩, .int .i64 0, .slice none 0 0, .int .i64 0, .int .i64 0, .int .i64 0, .int .i64 0, .int .i64 0, .int .i64 0, .int .i64 0, .int .i64 0, .int .i64 0, .int .i64 0, .int .i64 0, .int .i64 0, .int .i64 0] 44)).alloc (.cells #[.int .i64 2, .int .i64 0, .string ⟨#[]⟩, .string ⟨#[]⟩, .int .i64 nn, .slice none 0 0, .int .i64 0, .int .i64 0, .int .i64 0, .int .i64 0, .int .i64 0, .int .i64 0, .int .i64 0, .int .i64 0, .int .i64 0, .int .i64 0, .int .i64 0, .int .i64 0, .int .i64 0] 44)).drew.heap.size) := Lib.hid (by simp)
    have HRLT : Hid (w.heap.size < ((w.alloc (.cells #[.int .i64 0, .int .i64 0, .string ⟨#[]⟩, .string ⟨#[]⟩, .int .i64 0, .slice none 0 0, .int .i64 0, .int .i64 0, .int .i64 0, .int .i64 0, .int .i64 0, .int .i64 0, .int .i64 0, .int .i64 0, .int .i64 0, .int .i64 0, .int .i64 0, .int .i64 0, .int .i64 0] 44)).alloc (.cells #[.int .i64 2, .int .i64 0, .string ⟨#[]⟩, .string ⟨#[]⟩, .int .i64 nn, .slice none 0 0, .int .i64 0, .int .i64 0, .int .i64 0, .int .i64 0, .int .i64 0, .int .i64 0, .int .i64 0, .int .i64 0, .int .i64 0, .int .i64 0, .int .i64 0, .int .i64 0, .int .i64 0] 44)).drew.heap.size) := Lib.hid (by simp; omega)
    clear h2 hok hx1 hxl
    go_enter Tryd.func43, Tryd.ntmps43
    go_wp2_with fail
    refine Calls.mono (HCN.out _) ?_
    rintro e w5 ⟨rfl, rfl⟩
    go_wp2_with fail
    refine wp_region_held_drew (S := fun W => W.rangeAt (w.heap.size + 1) 0 L) (by kernel_rfl) HRL.out (fun hSx => ?_)
    refine wpAnyH_take (i := 0) (oi := ⟨some 84, _, _, _, _, none⟩) (v := .agg L.toArray) rfl (by kernel_rfl) (by kernel_rfl) (by kernel_rfl) (fun _ _ _ h => h) (yieldsIf_load_mid (by kernel_rfl) 44 (.tmp 4) rfl (w.heap.size + 1) 0 rfl L _ (fun W hW => hW) Tryd.underlying44 rfl HIL.out) hSx ?_
    try simp only [Act.put, List.setIfInBounds_toArray]
    refine wpAnyH_take (i := 1) (oi := ⟨some 85, _, _, _, _, none⟩) (v := .bool false) rfl (by kernel_rfl) (by kernel_rfl) (by kernel_rfl) (fun _ _ _ h => h) (Or.inl ⟨by kernel_rfl, ?_⟩) hSx ?_
    · intro wx hSx2; clear hSx; go_simp
    try simp only [Act.put, List.setIfInBounds_toArray]
    refine wpAnyH_take (i := 2) (oi := ⟨some 86, _, _, _, _, none⟩) (v := .bool false) rfl (by kernel_rfl) (by kernel_rfl) (by kernel_rfl) (fun _ _ _ h => h) (Or.inl ⟨by kernel_rfl, ?_⟩) hSx ?_
    · intro wx hSx2; clear hSx; go_simp
    try simp only [Act.put, List.setIfInBounds_toArray]
    refine wpAnyH_take (i := 3) (oi := ⟨some 87, _, _, _, _, some (2, true)⟩) (v := undef) rfl (by kernel_rfl) (by kernel_rfl) (by kernel_rfl) (fun _ _ _ h => h) (Or.inr ⟨by kernel_rfl, rfl⟩) hSx ?_
    try simp only [Act.put, List.setIfInBounds_toArray]
    refine wpAnyH_take (i := 4) (oi := ⟨some 88, _, _, _, _, some (2, true)⟩) (v := undef) rfl (by kernel_rfl) (by kernel_rfl) (by kernel_rfl) (fun _ _ _ h => h) (Or.inr ⟨by kernel_rfl, rfl⟩) hSx ?_
    try simp only [Act.put, List.setIfInBounds_toArray]
    refine wpAnyH_take (i := 5) (oi := ⟨some 89, _, _, _, _, some (2, true)⟩) (v := undef) rfl (by kernel_rfl) (by kernel_rfl) (by kernel_rfl) (fun _ _ _ h => h) (Or.inr ⟨by kernel_rfl, rfl⟩) hSx ?_
    try simp only [Act.put, List.setIfInBounds_toArray]
    refine wpAnyH_take (i := 6) (oi := ⟨some 90, _, _, _, _, none⟩) (v := .bool false) rfl (by kernel_rfl) (by kernel_rfl) (by kernel_rfl) (fun _ _ _ h => h) (Or.inl ⟨by kernel_rfl, ?_⟩) hSx ?_
    · intro wx hSx2; clear hSx; go_simp
    try simp only [Act.put, List.setIfInBounds_toArray]
    have HGZ : Hid ((((w.alloc (.cells #[.int .i64 0, .int .i64 0, .string ⟨#[]⟩, .string ⟨#[]⟩, .int .i64 0, .slice none 0 0, .int .i64 0, .int .i64 0, .int .i64 0, .int .i64 0, .int .i64 0, .int .i64 0, .int .i64 0, .int .i64 0, .int .i64 0, .int .i64 0, .int .i64 0, .int .i64 0, .int .i64 0] 44)).alloc (.cells #[.int .i64 2, .int .i64 0, .string ⟨#[]⟩, .string ⟨#[]⟩, .int .i64 nn, .slice none 0 0, .int .i64 0, .int .i64 0, .int .i64 0, .int .i64 0, .int .i64 0, .int .i64 0, .int .i64 0, .int .i64 0, .int .i64 0, .int .i64 0, .int .i64 0, .int .i64 0, .int .i64 0] 44))).drew.heap[w.heap.size]? = some (.cells #[.int .i64 0, .int .i64 0, .string ⟨#[]⟩, .string ⟨#[]⟩, .int .i64 0, .slice none 0 0, .int .i64 0, .int .i64 0, .int .i64 0, .int .i64 0, .int .i64 0, .int .i64 0, .int .i64 0, .int .i64 0, .int .i64 0, .int .i64 0, .int .i64 0, .int .i64 0, .int .i64 0] 44 (0, 0))) := HGR
    have HBZ : Hid (Below w.heap.size w (((w.alloc (.cells #[.int .i64 0, .int .i64 0, .string ⟨#[]⟩, .string ⟨#[]⟩, .int .i64 0, .slice none 0 0, .int .i64 0, .int .i64 0, .int .i64 0, .int .i64 0, .int .i64 0, .int .i64 0, .int .i64 0, .int .i64 0, .int .i64 0, .int .i64 0, .int .i64 0, .int .i64 0, .int .i64 0] 44)).alloc (.cells #[.int .i64 2, .int .i64 0, .string ⟨#[]⟩, .string ⟨#[]⟩, .int .i64 nn, .slice none 0 0, .int .i64 0, .int .i64 0, .int .i64 0, .int .i64 0, .int .i64 0, .int .i64 0, .int .i64 0, .int .i64 0, .int .i64 0, .int .i64 0, .int .i64 0, .int .i64 0, .int .i64 0] 44))).drew) := Lib.hid (below_drew HBW.out)
    refine store_ready 7 (by kernel_rfl) (by kernel_rfl) (by kernel_rfl) 44 (.tmp 2) (.tmp 84) (by kernel_rfl) (by kernel_rfl) w.heap.size L.toArray (by kernel_rfl) (by kernel_rfl) 44 _ HGZ.out HIL2.out HOS.out HOL.out (fun j u hj => (setRow_cell_other (by omega)).trans (hSx j u hj)) (fun hSy => ?_)
    clear hSx
    have hSx := hSy
    clear hSy
    try simp only [Act.put, List.setIfInBounds_toArray]
    refine wpAnyH_take (i := 8) (oi := ⟨some 3, _, _, _, _, none⟩) (v := .bool false) rfl (by kernel_rfl) (by kernel_rfl) (by kernel_rfl) (fun _ _ _ h => h) (Or.inl ⟨by kernel_rfl, ?_⟩) hSx ?_
    · intro wx hSx2; clear hSx; go_simp
    try simp only [Act.put, List.setIfInBounds_toArray]
    refine wpAnyH_done (by kernel_rfl) ?_ _
    go_wp2
    refine bodyPost_ret (results_row2 rfl _ _ w.heap.size 44 L.toArray (0, 0) _ rfl (setRow_heap _ _ _ _ _ _ HGZ.out) Tryd.underlying44 rfl HIL2.out) rfl ?_
    exact ⟨⟨⟨2, 0, [], [], nn, [], c0⟩, none, 0, Kp.nil _, noA, ⟨by simp, by simp, by simp⟩, .inr ⟨by rw [← HLL.out]; rfl, HP.out⟩⟩, below_setRow HBZ.out (Nat.le_refl _) _⟩
  · rw [show cntV x1 = .tuple #[.int .i64 ((cnt x1).1 : Int), .bool true] by rw [cntV, hok]] at HCN
    have HPF0 : Hid (stepP ws = fin ⟨2, 0, [], [], ((cnt x1).1 : Int), [], c0⟩) := Lib.hid (by rw [stepP, HX0.out, if_pos rfl, hx1, if_pos ⟨h2, hok⟩])
    generalize ((cnt x1).1 : Int) = nn at *
    have HPF : Hid (stepP ws = fin ⟨2, 0, [], [], nn, [], c0⟩) := Lib.hid (HPF0.out)
    have HEL : Hid (∃ L, stL 2 0 [] [] nn (.slice none 0 0) c0 = L) := Lib.hid ⟨_, rfl⟩
    obtain ⟨L, hL⟩ := HEL.out
    have HLL : Hid (stL 2 0 [] [] nn (.slice none 0 0) c0 = L) := Lib.hid hL
    have HIL : Hid ((Tryd.prog.info? 44).map (·.size) = some L.length) := Lib.hid (by rw [← hL]; exact info30)
    have HIL2 : Hid ((Tryd.prog.info? 44).map (·.size) = some L.toArray.size) := Lib.hid (by rw [← hL]; exact info30)
    have HOS : Hid ((#[.int .i64 0, .int .i64 0, .string ⟨#[]⟩, .string ⟨#[]⟩, .int .i64 0, .slice none 0 0, .int .i64 0, .int .i64 0, .int .i64 0, .int .i64 0, .int .i64 0, .int .i64 0, .int .i64 0, .int .i64 0, .int .i64 0, .int .i64 0, .int .i64 0, .int .i64 0, .int .i64 0] : Array Value).size = L.toArray.size) := Lib.hid (by rw [← hL]; rfl)
    have HOL : Hid (L.toArray.all (·.oneCell') = true) := Lib.hid (by rw [← hL]; exact stL_one _ _ _ _ _ _ _ _ _)
    have HRL : Hid (((w.alloc (.cells #[.int .i64 0, .int .i64 0, .string ⟨#[]⟩, .string ⟨#[]⟩, .int .i64 0, .slice none 0 0, .int .i64 0, .int .i64 0, .int .i64 0, .int .i64 0, .int .i64 0, .int .i64 0, .int .i64 0, .int .i64 0, .int .i64 0, .int .i64 0, .int .i64 0, .int .i64 0, .int .i64 0] 44)).alloc (.cells #[.int .i64 2, .int .i64 0, .string ⟨#[]⟩, .string ⟨#[]⟩, .int .i64 nn, .slice none 0 0, .int .i64 0, .int .i64 0, .int .i64 0, .int .i64 0, .int .i64 0, .int .i64 0, .int .i64 0, .int .i64 0, .int .i64 0, .int .i64 0, .int .i64 0, .int .i64 0, .int .i64 0] 44)).rangeAt (w.heap.size + 1) 0 L) := Lib.hid (by rw [← hL]; exact range_of_row (by have := heap_alloc_new (w.alloc (.cells #[.int .i64 0, .int .i64 0, .string ⟨#[]⟩, .string ⟨#[]⟩, .int .i64 0, .slice none 0 0, .int .i64 0, .int .i64 0, .int .i64 0, .int .i64 0, .int .i64 0, .int .i64 0, .int .i64 0, .int .i64 0, .int .i64 0, .int .i64 0, .int .i64 0, .int .i64 0, .int .i64 0] 44)) (.cells (stL 2 0 [] [] nn (.slice none 0 0) c0).toArray 44); rwa [World.size_alloc] at this))
    clear hL HEL
    have HBW : Hid (Below w.heap.size w ((w.alloc (.cells #[.int .i64 0, .int .i64 0, .string ⟨#[]⟩, .string ⟨#[]⟩, .int .i64 0, .slice none 0 0, .int .i64 0, .int .i64 0, .int .i64 0, .int .i64 0, .int .i64 0, .int .i64 0, .int .i64 0, .int .i64 0, .int .i64 0, .int .i64 0, .int .i64 0, .int .i64 0, .int .i64 0] 44)).alloc (.cells #[.int .i64 2, .int .i64 0, .string ⟨#[]⟩, .string ⟨#[]⟩, .int .i64 nn, .slice none 0 0, .int .i64 0, .int .i64 0, .int .i64 0, .int .i64 0, .int .i64 0, .int .i64 0, .int .i64 0, .int .i64 0, .int .i64 0, .int .i64 0, .int .i64 0, .int .i64 0, .int .i64 0] 44))) := Lib.hid (((Below.refl _ _).alloc (Nat.le_refl _) _).alloc (by simp) _)
    have HGR : Hid (((w.alloc (.cells #[.int .i64 0, .int .i64 0, .string ⟨#[]⟩, .string ⟨#[]⟩, .int .i64 0, .slice none 0 0, .int .i64 0, .int .i64 0, .int .i64 0, .int .i64 0, .int .i64 0, .int .i64 0, .int .i64 0, .int .i64 0, .int .i64 0, .int .i64 0, .int .i64 0, .int .i64 0, .int .i64 0] 44)).alloc (.cells #[.int .i64 2, .int .i64 0, .string ⟨#[]⟩, .string ⟨#[]⟩, .int .i64 nn, .slice none 0 0, .int .i64 0, .int .i64 0, .int .i64 0, .int .i64 0, .int .i64 0, .int .i64 0, .int .i64 0, .int .i64 0, .int .i64 0, .int .i64 0, .int .i64 0, .int .i64 0, .int .i64 0] 44)).heap[w.heap.size]? = some (.cells #[.int .i64 0, .int .i64 0, .string ⟨#[]⟩, .string ⟨#[]⟩, .int .i64 0, .slice none 0 0, .int .i64 0, .int .i64 0, .int .i64 0, .int .i64 0, .int .i64 0, .int .i64 0, .int .i64 0, .int .i64 0, .int .i64 0, .int .i64 0, .int .i64 0, .int .i64 0, .int .i64 0] 44 (0, 0))) := Lib.hid ((Below.heap_alloc _ _ _ (by simp)).trans (heap_alloc_new w _))
    have HSLT : Hid (w.heap.size + 1 < ((w.alloc (.cells #[.int .i64 0, .int .i64 0, .string ⟨#[]⟩, .string ⟨#[]⟩, .int .i64 0, .slice none 0 0, .int .i64 0, .int .i64 0, .int .i64 0, .int .i64 0, .int .i64 0, .int .i64 0, .int .i64 0, .int .i64 0, .int .i64 0, .int .i64 0, .int .i64 0, .int .i64 0, .int .i64 0] 44)).alloc (.cells #[.int .i64 2, .int .i64 0, .string ⟨#[]⟩, .string ⟨#[]⟩, .int .i64 nn, .slice none 0 0, .int .i64 0, .int .i64 0, .int .i64 0, .int .i64 0, .int .i64 0, .int .i64 0, .int .i64 0, .int .i64 0, .int .i64 0, .int .i64 0, .int .i64 0, .int .i64 0, .int .i64 0] 44)).drew.heap.size) := Lib.hid (by simp)
    have HRLT : Hid (w.heap.size < ((w.alloc (.cells #[.int .i64 0, .int .i64 0, .string ⟨#[]⟩, .string ⟨#[]⟩, .int .i64 0, .slice none 0 0, .int .i64 0, .int .i64 0, .int .i64 0, .int .i64 0, .int .i64 0, .int .i64 0, .int .i64 0, .int .i64 0, .int .i64 0, .int .i64 0, .int .i64 0, .int .i64 0, .int .i64 0] 44)).alloc (.cells #[.int .i64 2, .int .i64 0, .string ⟨#[]⟩, .string ⟨#[]⟩, .int .i64 nn, .slice none 0 0, .int .i64 0, .int .i64 0, .int .i64 0, .int .i64 0, .int .i64 0, .int .i64 0, .int .i64 0, .int .i64 0, .int .i64 0, .int .i64 0, .int .i64 0, .int .i64 0, .int .i64 0] 44)).drew.heap.size) := Lib.hid (by simp; omega)
    clear h2 hok hx1 hxl
    cases hm : mayB ⟨2, 0, [], [], nn, [], c0⟩
    case false =>
      have HP : Hid (stepP ws = none) := Lib.hid (by rw [HPF.out, fin, hm]; rfl)
      have HCK : Hid (∀ w', Below ((w.alloc (.cells #[.int .i64 0, .int .i64 0, .string ⟨#[]⟩, .string ⟨#[]⟩, .int .i64 0, .slice none 0 0, .int .i64 0, .int .i64 0, .int .i64 0, .int .i64 0, .int .i64 0, .int .i64 0, .int .i64 0, .int .i64 0, .int .i64 0, .int .i64 0, .int .i64 0, .int .i64 0, .int .i64 0] 44)).alloc (.cells #[.int .i64 2, .int .i64 0, .string ⟨#[]⟩, .string ⟨#[]⟩, .int .i64 nn, .slice none 0 0, .int .i64 0, .int .i64 0, .int .i64 0, .int .i64 0, .int .i64 0, .int .i64 0, .int .i64 0, .int .i64 0, .int .i64 0, .int .i64 0, .int .i64 0, .int .i64 0, .int .i64 0] 44)).heap.size ((w.alloc (.cells #[.int .i64 0, .int .i64 0, .string ⟨#[]⟩, .string ⟨#[]⟩, .int .i64 0, .slice none 0 0, .int .i64 0, .int .i64 0, .int .i64 0, .int .i64 0, .int .i64 0, .int .i64 0, .int .i64 0, .int .i64 0, .int .i64 0, .int .i64 0, .int .i64 0, .int .i64 0, .int .i64 0] 44)).alloc (.cells #[.int .i64 2, .int .i64 0, .string ⟨#[]⟩, .string ⟨#[]⟩, .int .i64 nn, .slice none 0 0, .int .i64 0, .int .i64 0, .int .i64 0, .int .i64 0, .int .i64 0, .int .i64 0, .int .i64 0, .int .i64 0, .int .i64 0, .int .i64 0, .int .i64 0, .int .i64 0, .int .i64 0] 44)) w' → Calls Tryd.prog 28 #[.agg L.toArray] w' fun e w'' => e = .returned (.int .i64 1) ∧ Below w'.heap.size w' w'') := Lib.hid (fun w' hb => by
        have := check11 ⟨2, 0, [], [], nn, [], c0⟩ none 0 w' (Kp.nil _) ⟨by simp, by simp, by simp⟩
        rw [hm, show (⟨2, 0, [], [], nn, [], c0⟩ : St).A (.slice none ([] : List Bool).length 0) = L.toArray from congrArg List.toArray HLL.out] at this
        exact this)
      clear hm
      go_enter Tryd.func43, Tryd.ntmps43
      go_wp2_with fail
      refine Calls.mono (HCN.out _) ?_
      rintro e w5 ⟨rfl, rfl⟩
      go_wp2_with fail
      refine wp_region_held_drew (S := fun W => W.rangeAt (w.heap.size + 1) 0 L) (by kernel_rfl) HRL.out (fun hSx => ?_)
      refine wpAnyH_take (i := 0) (oi := ⟨some 84, _, _, _, _, none⟩) (v := .agg L.toArray) rfl (by kernel_rfl) (by kernel_rfl) (by kernel_rfl) (fun _ _ _ h => h) (yieldsIf_load_mid (by kernel_rfl) 44 (.tmp 4) rfl (w.heap.size + 1) 0 rfl L _ (fun W hW => hW) Tryd.underlying44 rfl HIL.out) hSx ?_
      try simp only [Act.put, List.setIfInBounds_toArray]
      refine wpAnyH_take (i := 1) (oi := ⟨some 85, _, _, _, _, none⟩) (v := .bool true) rfl (by kernel_rfl) (by kernel_rfl) (by kernel_rfl) (fun _ _ _ h => h) (Or.inl ⟨by kernel_rfl, ?_⟩) hSx ?_
      · intro wx hSx2; clear hSx; go_simp
      try simp only [Act.put, List.setIfInBounds_toArray]
      refine wpAnyH_take (i := 2) (oi := ⟨some 86, _, _, _, _, none⟩) (v := .bool true) rfl (by kernel_rfl) (by kernel_rfl) (by kernel_rfl) (fun _ _ _ h => h) (Or.inl ⟨by kernel_rfl, ?_⟩) hSx ?_
      · intro wx hSx2; clear hSx; go_simp
      try simp only [Act.put, List.setIfInBounds_toArray]
      refine wpAnyH_take (i := 3) (oi := ⟨some 87, _, _, _, _, some (2, true)⟩) (v := .agg L.toArray) rfl (by kernel_rfl) (by kernel_rfl) (by kernel_rfl) (fun _ _ _ h => h) (yieldsIf_load_mid (by kernel_rfl) 44 (.tmp 4) rfl (w.heap.size + 1) 0 rfl L _ (fun W hW => hW) Tryd.underlying44 rfl HIL.out) hSx ?_
      try simp only [Act.put, List.setIfInBounds_toArray]
      refine wpAnyH_ready (rs := [4]) (by kernel_rfl) (by simp) ?_
      refine AllReadyH.cons (o := ⟨some 88, _, _, _, _, some (2, true)⟩) rfl (fun KK hKK => ?_) AllReadyH.nil
      go_simp
      refine (HCK.out _ (bdrew (Below.refl _ _))).mono ?_
      rintro e wz ⟨rfl, hbz⟩
      have hSz : wz.rangeAt (w.heap.size + 1) 0 L := fun j u hj => (hbz.cell (p := ⟨(w.heap.size + 1), 0 + j, none⟩) HSLT.out).trans (hSx j u hj)
      refine hKK.out _ _ hSz (fun hSy => ?_)
      clear hKK hSx hSz
      have hSx := hSy
      clear hSy KK
      try simp only [Act.put, List.setIfInBounds_toArray, List.set_cons_zero, List.set_cons_succ]
      have HGZ : Hid (wz.heap[w.heap.size]? = some (.cells #[.int .i64 0, .int .i64 0, .string ⟨#[]⟩, .string ⟨#[]⟩, .int .i64 0, .slice none 0 0, .int .i64 0, .int .i64 0, .int .i64 0, .int .i64 0, .int .i64 0, .int .i64 0, .int .i64 0, .int .i64 0, .int .i64 0, .int .i64 0, .int .i64 0, .int .i64 0, .int .i64 0] 44 (0, 0))) := Lib.hid ((hbz.block w.heap.size HRLT.out).trans HGR.out)
      have HBZ : Hid (Below w.heap.size w wz) := Lib.hid ((below_drew HBW.out).trans (hbz.mono (below_drew HBW.out).size))
      refine wpAnyH_take (i := 5) (oi := ⟨some 89, _, _, _, _, some (2, true)⟩) (v := .bool false) rfl (by kernel_rfl) (by kernel_rfl) (by kernel_rfl) (fun _ _ _ h => h) (Or.inl ⟨by kernel_rfl, ?_⟩) hSx ?_
      · intro wx hSx2; clear hSx; go_simp
      try simp only [Act.put, List.setIfInBounds_toArray]
      refine wpAnyH_take (i := 6) (oi := ⟨some 90, _, _, _, _, none⟩) (v := .bool false) rfl (by kernel_rfl) (by kernel_rfl) (by kernel_rfl) (fun _ _ _ h => h) (Or.inl ⟨by kernel_rfl, ?_⟩) hSx ?_
      · intro wx hSx2; clear hSx; go_simp
      try simp only [Act.put, List.setIfInBounds_toArray]
      refine store_ready 7 (by kernel_rfl) (by kernel_rfl) (by kernel_rfl) 44 (.tmp 2) (.tmp 84) (by kernel_rfl) (by kernel_rfl) w.heap.size L.toArray (by kernel_rfl) (by kernel_rfl) 44 _ HGZ.out HIL2.out HOS.out HOL.out (fun j u hj => (setRow_cell_other (by omega)).trans (hSx j u hj)) (fun hSy => ?_)
      clear hSx
      have hSx := hSy
      clear hSy
      try simp only [Act.put, List.setIfInBounds_toArray]
      refine wpAnyH_take (i := 8) (oi := ⟨some 3, _, _, _, _, none⟩) (v := .bool false) rfl (by kernel_rfl) (by kernel_rfl) (by kernel_rfl) (fun _ _ _ h => h) (Or.inl ⟨by kernel_rfl, ?_⟩) hSx ?_
      · intro wx hSx2; clear hSx; go_simp
      try simp only [Act.put, List.setIfInBounds_toArray]
      refine wpAnyH_done (by kernel_rfl) ?_ _
      go_wp2
      refine bodyPost_ret (results_row2 rfl _ _ w.heap.size 44 L.toArray (0, 0) _ rfl (setRow_heap _ _ _ _ _ _ HGZ.out) Tryd.underlying44 rfl HIL2.out) rfl ?_
      exact ⟨⟨⟨2, 0, [], [], nn, [], c0⟩, none, 0, Kp.nil _, noA, ⟨by simp, by simp, by simp⟩, .inr ⟨by rw [← HLL.out]; rfl, HP.out⟩⟩, below_setRow HBZ.out (Nat.le_refl _) _⟩
    case true =>
      have HP : Hid (stepP ws = some ⟨2, 0, [], [], nn, [], c0⟩) := Lib.hid (by rw [HPF.out, fin, hm]; rfl)
      have HCK : Hid (∀ w', Below ((w.alloc (.cells #[.int .i64 0, .int .i64 0, .string ⟨#[]⟩, .string ⟨#[]⟩, .int .i64 0, .slice none 0 0, .int .i64 0, .int .i64 0, .int .i64 0, .int .i64 0, .int .i64 0, .int .i64 0, .int .i64 0, .int .i64 0, .int .i64 0, .int .i64 0, .int .i64 0, .int .i64 0, .int .i64 0] 44)).alloc (.cells #[.int .i64 2, .int .i64 0, .string ⟨#[]⟩, .string ⟨#[]⟩, .int .i64 nn, .slice none 0 0, .int .i64 0, .int .i64 0, .int .i64 0, .int .i64 0, .int .i64 0, .int .i64 0, .int .i64 0, .int .i64 0, .int .i64 0, .int .i64 0, .int .i64 0, .int .i64 0, .int .i64 0] 44)).heap.size ((w.alloc (.cells #[.int .i64 0, .int .i64 0, .string ⟨#[]⟩, .string ⟨#[]⟩, .int .i64 0, .slice none 0 0, .int .i64 0, .int .i64 0, .int .i64 0, .int .i64 0, .int .i64 0, .int .i64 0, .int .i64 0, .int .i64 0, .int .i64 0, .int .i64 0, .int .i64 0, .int .i64 0, .int .i64 0] 44)).alloc (.cells #[.int .i64 2, .int .i64 0, .string ⟨#[]⟩, .string ⟨#[]⟩, .int .i64 nn, .slice none 0 0, .int .i64 0, .int .i64 0, .int .i64 0, .int .i64 0, .int .i64 0, .int .i64 0, .int .i64 0, .int .i64 0, .int .i64 0, .int .i64 0, .int .i64 0, .int .i64 0, .int .i64 0] 44)) w' → Calls Tryd.prog 28 #[.agg L.toArray] w' fun e w'' => e = .returned (.int .i64 0) ∧ Below w'.heap.size w' w'') := Lib.hid (fun w' hb => by
        have := check11 ⟨2, 0, [], [], nn, [], c0⟩ none 0 w' (Kp.nil _) ⟨by simp, by simp, by simp⟩
        rw [hm, show (⟨2, 0, [], [], nn, [], c0⟩ : St).A (.slice none ([] : List Bool).length 0) = L.toArray from congrArg List.toArray HLL.out] at this
        exact this)
      clear hm
      go_enter Tryd.func43, Tryd.ntmps43
      go_wp2_with fail
      refine Calls.mono (HCN.out _) ?_
      rintro e w5 ⟨rfl, rfl⟩
      go_wp2_with fail
      refine wp_region_held_drew (S := fun W => W.rangeAt (w.heap.size + 1) 0 L) (by kernel_rfl) HRL.out (fun hSx => ?_)
      refine wpAnyH_take (i := 0) (oi := ⟨some 84, _, _, _, _, none⟩) (v := .agg L.toArray) rfl (by kernel_rfl) (by kernel_rfl) (by kernel_rfl) (fun _ _ _ h => h) (yieldsIf_load_mid (by kernel_rfl) 44 (.tmp 4) rfl (w.heap.size + 1) 0 rfl L _ (fun W hW => hW) Tryd.underlying44 rfl HIL.out) hSx ?_
      try simp only [Act.put, List.setIfInBounds_toArray]
      refine wpAnyH_take (i := 1) (oi := ⟨some 85, _, _, _, _, none⟩) (v := .bool true) rfl (by kernel_rfl) (by kernel_rfl) (by kernel_rfl) (fun _ _ _ h => h) (Or.inl ⟨by kernel_rfl, ?_⟩) hSx ?_
      · intro wx hSx2; clear hSx; go_simp
      try simp only [Act.put, List.setIfInBounds_toArray]
      refine wpAnyH_take (i := 2) (oi := ⟨some 86, _, _, _, _, none⟩) (v := .bool true) rfl (by kernel_rfl) (by kernel_rfl) (by kernel_rfl) (fun _ _ _ h => h) (Or.inl ⟨by kernel_rfl, ?_⟩) hSx ?_
      · intro wx hSx2; clear hSx; go_simp
      try simp only [Act.put, List.setIfInBounds_toArray]
      refine wpAnyH_take (i := 3) (oi := ⟨some 87, _, _, _, _, some (2, true)⟩) (v := .agg L.toArray) rfl (by kernel_rfl) (by kernel_rfl) (by kernel_rfl) (fun _ _ _ h => h) (yieldsIf_load_mid (by kernel_rfl) 44 (.tmp 4) rfl (w.heap.size + 1) 0 rfl L _ (fun W hW => hW) Tryd.underlying44 rfl HIL.out) hSx ?_
      try simp only [Act.put, List.setIfInBounds_toArray]
      refine wpAnyH_ready (rs := [4]) (by kernel_rfl) (by simp) ?_
      refine AllReadyH.cons (o := ⟨some 88, _, _, _, _, some (2, true)⟩) rfl (fun KK hKK => ?_) AllReadyH.nil
      go_simp
      refine (HCK.out _ (bdrew (Below.refl _ _))).mono ?_
      rintro e wz ⟨rfl, hbz⟩
      have hSz : wz.rangeAt (w.heap.size + 1) 0 L := fun j u hj => (hbz.cell (p := ⟨(w.heap.size + 1), 0 + j, none⟩) HSLT.out).trans (hSx j u hj)
      refine hKK.out _ _ hSz (fun hSy => ?_)
      clear hKK hSx hSz
      have hSx := hSy
      clear hSy KK
      try simp only [Act.put, List.setIfInBounds_toArray, List.set_cons_zero, List.set_cons_succ]
      have HGZ : Hid (wz.heap[w.heap.size]? = some (.cells #[.int .i64 0, .int .i64 0, .string ⟨#[]⟩, .string ⟨#[]⟩, .int .i64 0, .slice none 0 0, .int .i64 0, .int .i64 0, .int .i64 0, .int .i64 0, .int .i64 0, .int .i64 0, .int .i64 0, .int .i64 0, .int .i64 0, .int .i64 0, .int .i64 0, .int .i64 0, .int .i64 0] 44 (0, 0))) := Lib.hid ((hbz.block w.heap.size HRLT.out).trans HGR.out)
      have HBZ : Hid (Below w.heap.size w wz) := Lib.hid ((below_drew HBW.out).trans (hbz.mono (below_drew HBW.out).size))
      refine wpAnyH_take (i := 5) (oi := ⟨some 89, _, _, _, _, some (2, true)⟩) (v := .bool true) rfl (by kernel_rfl) (by kernel_rfl) (by kernel_rfl) (fun _ _ _ h => h) (Or.inl ⟨by kernel_rfl, ?_⟩) hSx ?_
      · intro wx hSx2; clear hSx; go_simp
      try simp only [Act.put, List.setIfInBounds_toArray]
      refine wpAnyH_take (i := 6) (oi := ⟨some 90, _, _, _, _, none⟩) (v := .bool true) rfl (by kernel_rfl) (by kernel_rfl) (by kernel_rfl) (fun _ _ _ h => h) (Or.inl ⟨by kernel_rfl, ?_⟩) hSx ?_
      · intro wx hSx2; clear hSx; go_simp
      try simp only [Act.put, List.setIfInBounds_toArray]
      refine store_ready 7 (by kernel_rfl) (by kernel_rfl) (by kernel_rfl) 44 (.tmp 2) (.tmp 84) (by kernel_rfl) (by kernel_rfl) w.heap.size L.toArray (by kernel_rfl) (by kernel_rfl) 44 _ HGZ.out HIL2.out HOS.out HOL.out (fun j u hj => (setRow_cell_other (by omega)).trans (hSx j u hj)) (fun hSy => ?_)
      clear hSx
      have hSx := hSy
      clear hSy
      try simp only [Act.put, List.setIfInBounds_toArray]
      refine wpAnyH_take (i := 8) (oi := ⟨some 3, _, _, _, _, none⟩) (v := .bool true) rfl (by kernel_rfl) (by kernel_rfl) (by kernel_rfl) (fun _ _ _ h => h) (Or.inl ⟨by kernel_rfl, ?_⟩) hSx ?_
      · intro wx hSx2; clear hSx; go_simp
      try simp only [Act.put, List.setIfInBounds_toArray]
      refine wpAnyH_done (by kernel_rfl) ?_ _
      go_wp2
      refine bodyPost_ret (results_row2 rfl _ _ w.heap.size 44 L.toArray (0, 0) _ rfl (setRow_heap _ _ _ _ _ _ HGZ.out) Tryd.underlying44 rfl HIL2.out) rfl ?_
      exact ⟨⟨⟨2, 0, [], [], nn, [], c0⟩, none, 0, Kp.nil _, noA, ⟨by simp, by simp, by simp⟩, .inl ⟨by rw [← HLL.out]; rfl, HP.out⟩⟩, below_setRow HBZ.out (Nat.le_refl _) _⟩
end Go.Proofs.YtjakkmioofbcaaaDoor
