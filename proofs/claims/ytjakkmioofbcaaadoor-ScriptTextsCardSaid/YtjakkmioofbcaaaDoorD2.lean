/- The walks over step at conf, and at calls. -/
import Derived.Test.YtjakkmioofbcaaaDoorD1
namespace Go.Proofs.YtjakkmioofbcaaaDoor
open Go.RowKit
theorem wpList_store_to {P : Program} {ops : Array Oper} {rest : List Oper} {op : Oper} {a : Act} {w W3 : World} {Q : Exit → Act → World → Prop} (hgd : op.guard = none) (ty : TypeId) (x y : Operand) (ho : op.op = .store ty x y)
    (b o : Nat) (cells : Array Value) (hx : a.eval x = .pointer (some ⟨b, o, none⟩)) (hy : a.eval y = .agg cells)
    (ht : w.there b o cells.size) (hi : (P.info? ty).map (·.size) = some cells.size) (h1 : cells.all (·.oneCell') = true) (hW : w.setCells b o cells.toList = W3)
    (h : wpList P ops Q rest (a.put op.dst undef) W3) : wpList P ops Q (op :: rest) a w := by
  subst hW
  exact wpList_store_mid hgd ty x y ho b o cells hx hy ht hi h1 h
def putAt : Array Value → Nat → List Value → Array Value
  | cs, _, [] => cs
  | cs, o, v :: r => putAt (cs.setIfInBounds o v) (o + 1) r
theorem setCells_row {g : Nat} {t : TypeId} : ∀ (vs : List Value) (o : Nat) (cs : Array Value) (w : World), w.heap[g]? = some (.cells cs t (0, 0)) → (w.setCells g o vs).heap[g]? = some (.cells (putAt cs o vs) t (0, 0))
  | [], _, _, _, h => h
  | v :: r, o, cs, _, h => setCells_row r (o + 1) (cs.setIfInBounds o v) _ (Go.heap_setCell_same _ g o cs t v h)
theorem setCells_other {g k : Nat} (hk : k ≠ g) : ∀ (vs : List Value) (o : Nat) (w : World), (w.setCells g o vs).heap[k]? = w.heap[k]?
  | [], _, _ => rfl
  | v :: r, o, w => (setCells_other hk r (o + 1) (w.setCell ⟨g, o, none⟩ v)).trans (heap_setCell_other w ⟨g, o, none⟩ k v hk)
theorem setCells_below {B g : Nat} {a : World} (hB : B ≤ g) : ∀ (vs : List Value) (o : Nat) (w : World), Below B a w → Below B a (w.setCells g o vs)
  | [], _, _, h => h
  | v :: r, o, _, h => setCells_below hB r (o + 1) _ (h.setCell (p := ⟨g, o, none⟩) hB v)
theorem there_of_row {w : World} {g : Nat} {cs : Array Value} {t : TypeId} (h : w.heap[g]? = some (.cells cs t (0, 0))) (o n : Nat) (hn : o + n ≤ cs.size) : w.there g o n := fun j hj => ⟨by rw [cell_of_row w g (o + j) cs t _ h]; simp; omega, frozen_of_row w g (o + j) cs t h⟩
theorem Ws.tail {w : World} {b o cp : Nat} {ws : List (List UInt8)} (h : Ws w (.slice (some ⟨b, o, none⟩) ws.length cp) ws) (h0 : ws ≠ []) : Ws w (.slice (some ⟨b, o + 1, none⟩) (ws.length - 1) (cp - 1)) ws.tail := by
  obtain ⟨b', o', c', e, hlt, hcap, hc⟩ := h.2 h0
  injection e with e1 e2 e3
  injection e1 with e1
  injection e1 with e4 e5
  subst e4
  subst e5
  subst e3
  have hl : 0 < ws.length := List.length_pos_iff.2 h0
  have ht : ws.tail.length = ws.length - 1 := by simp
  refine ⟨⟨_, _, by rw [ht]⟩, fun _ => ⟨_, _, _, by rw [ht], hlt, by rw [ht]; omega, fun i hi => ?_⟩⟩
  rw [ht] at hi
  have := hc (i + 1) (by omega)
  rw [show o + 1 + i = o + (i + 1) by omega, this]
  simp [List.getD]
theorem put_conf (c : Fin 13 → Int) : putAt #[.int .i64 4, .int .i64 0, .string ⟨#[]⟩, .string ⟨#[]⟩, .int .i64 0, .slice none 0 0, .int .i64 0, .int .i64 0, .int .i64 0, .int .i64 0, .int .i64 0, .int .i64 0, .int .i64 0, .int .i64 0, .int .i64 0, .int .i64 0, .int .i64 0, .int .i64 0, .int .i64 0] 6 (cfL c).toArray.toList = (stL 4 0 [] [] 0 (.slice none 0 0) c).toArray := by
  simp [putAt, cfL, stL, str]
theorem put_call (op : Int) (nm dt : List UInt8) : putAt #[.int .i64 1, .int .i64 0, .string ⟨#[]⟩, .string ⟨#[]⟩, .int .i64 0, .slice none 0 0, .int .i64 0, .int .i64 0, .int .i64 0, .int .i64 0, .int .i64 0, .int .i64 0, .int .i64 0, .int .i64 0, .int .i64 0, .int .i64 0, .int .i64 0, .int .i64 0, .int .i64 0] 1 (callA op nm dt).toList = (stL 1 op nm dt 0 (.slice none 0 0) c0).toArray := by
  simp [putAt, callA, stL, str, c0]
set_option maxRecDepth 100000 in
set_option maxHeartbeats 2000000 in
theorem step17_conf (v : Value) (ws : List (List UInt8)) (w : World) (hw : Ws w v ws) (h0 : ws ≠ []) (hx : ∀ x ∈ ws, x.length ≤ 100000) (hkk : ws.getD 0 [] = confW) :
    Calls Tryd.prog 43 #[v] w fun e w' => StepEnd w.heap.size ws e w' ∧ Below w.heap.size w w' := by
  obtain ⟨b, o, cp, rfl, hlt, hcap, hc⟩ := hw.2 h0
  have HWS := Lib.hid hw
  have HC := Lib.hid hc
  have HX := Lib.hid hx
  have HLT := Lib.hid hlt
  have hlen : 0 < ws.length := List.length_pos_iff.2 h0
  have hlenI : (0 : Int) < (ws.length : Int) := by omega
  have HEX : Hid (∃ x, ws.getD 0 [] = x) := Lib.hid ⟨_, rfl⟩
  obtain ⟨x0, hx0⟩ := HEX.out
  have HCE0 : Hid (∀ W, Below w.heap.size w W → W.cell? ⟨b, o, none⟩ = some (.string (str x0))) := Lib.hid (fun W hb => by
    have := hc 0 hlen
    rw [hx0, Nat.add_zero] at this
    rw [hb.cell (p := ⟨b, o, none⟩) hlt]
    exact this)
  have HB2 : Hid (Below w.heap.size w ((w.alloc (.cells #[.int .i64 0, .int .i64 0, .string ⟨#[]⟩, .string ⟨#[]⟩, .int .i64 0, .slice none 0 0, .int .i64 0, .int .i64 0, .int .i64 0, .int .i64 0, .int .i64 0, .int .i64 0, .int .i64 0, .int .i64 0, .int .i64 0, .int .i64 0, .int .i64 0, .int .i64 0, .int .i64 0] 44)).alloc (.cells #[.int .i64 0, .int .i64 0, .string ⟨#[]⟩, .string ⟨#[]⟩, .int .i64 0, .slice none 0 0, .int .i64 0, .int .i64 0, .int .i64 0, .int .i64 0, .int .i64 0, .int .i64 0, .int .i64 0, .int .i64 0, .int .i64 0, .int .i64 0, .int .i64 0, .int .i64 0, .int .i64 0] 44))) := Lib.hid (((Below.refl _ _).alloc (Nat.le_refl _) _).alloc (by simp) _)
  have hc2 := HCE0.out _ HB2.out
  rw [hx0] at hkk
  have HX0 := Lib.hid hx0
  clear hc hx hw hx0 HEX hlt
  subst hkk
  have t1 : ((str confW).toList == [102, 117, 115, 101]) = false := by rw [str_toList]; rfl
  have t2 : ((str confW).toList == [112, 111, 119, 101, 114]) = false := by rw [str_toList]; rfl
  have t3 : ((str confW).toList == [99, 111, 110, 102]) = true := by rw [str_toList]; rfl
  have HB3 : Hid (Below w.heap.size w ((w.alloc (.cells #[.int .i64 0, .int .i64 0, .string ⟨#[]⟩, .string ⟨#[]⟩, .int .i64 0, .slice none 0 0, .int .i64 0, .int .i64 0, .int .i64 0, .int .i64 0, .int .i64 0, .int .i64 0, .int .i64 0, .int .i64 0, .int .i64 0, .int .i64 0, .int .i64 0, .int .i64 0, .int .i64 0] 44)).alloc (.cells #[.int .i64 4, .int .i64 0, .string ⟨#[]⟩, .string ⟨#[]⟩, .int .i64 0, .slice none 0 0, .int .i64 0, .int .i64 0, .int .i64 0, .int .i64 0, .int .i64 0, .int .i64 0, .int .i64 0, .int .i64 0, .int .i64 0, .int .i64 0, .int .i64 0, .int .i64 0, .int .i64 0] 44))) := Lib.hid (((Below.refl _ _).alloc (Nat.le_refl _) _).alloc (by simp) _)
  have hone : (1 : Int) ≤ (ws.length : Int) := by omega
  have hcapI : (ws.length : Int) ≤ (cp : Int) := by omega
  have HCL : Hid (∀ c, (Tryd.prog.info? 23).map (·.size) = some (cfL c).toArray.size) := Lib.hid (fun c => info28)
  have HCO : Hid (∀ c, (cfL c).toArray.all (·.oneCell') = true) := Lib.hid (fun c => by simp [cfL, Value.oneCell'])
  by_cases hcp : cp = 1
  case pos =>
    subst hcp
    have htl : ws.tail = [] := List.length_eq_zero_iff.1 (by simp; omega)
    have HCF := Lib.hid (conf32 (.slice (some ⟨b, o, none⟩) 0 0) ws.tail ((w.alloc (.cells #[.int .i64 0, .int .i64 0, .string ⟨#[]⟩, .string ⟨#[]⟩, .int .i64 0, .slice none 0 0, .int .i64 0, .int .i64 0, .int .i64 0, .int .i64 0, .int .i64 0, .int .i64 0, .int .i64 0, .int .i64 0, .int .i64 0, .int .i64 0, .int .i64 0, .int .i64 0, .int .i64 0] 44)).alloc (.cells #[.int .i64 4, .int .i64 0, .string ⟨#[]⟩, .string ⟨#[]⟩, .int .i64 0, .slice none 0 0, .int .i64 0, .int .i64 0, .int .i64 0, .int .i64 0, .int .i64 0, .int .i64 0, .int .i64 0, .int .i64 0, .int .i64 0, .int .i64 0, .int .i64 0, .int .i64 0, .int .i64 0] 44)) ⟨⟨some ⟨b, o, none⟩, 0, by rw [htl]; rfl⟩, fun h => absurd htl h⟩ (fun x hx => by rw [htl] at hx; cases hx))
    have hcf : confP ws.tail = none := by rw [htl]; rfl
    clear htl
    rw [hcf, confV] at HCF
    have HP : Hid (stepP ws = none) := Lib.hid (by rw [stepP, HX0.out, if_neg (by decide), if_neg (by decide), if_pos rfl, hcf])
    clear hcf
    go_enter Tryd.func43, Tryd.ntmps43
    go_wp2_with fail
    refine Calls.mono HCF.out ?_
    rintro e w5 ⟨rfl, hb5⟩
    obtain ⟨W6, hW6⟩ : ∃ W, w5.setCells (w.heap.size + 1) 6 ((cfL c0).toArray).toList = W := ⟨_, rfl⟩
    have HW6 := Lib.hid hW6
    have hg5 : w5.heap[w.heap.size + 1]? = some (.cells #[.int .i64 4, .int .i64 0, .string ⟨#[]⟩, .string ⟨#[]⟩, .int .i64 0, .slice none 0 0, .int .i64 0, .int .i64 0, .int .i64 0, .int .i64 0, .int .i64 0, .int .i64 0, .int .i64 0, .int .i64 0, .int .i64 0, .int .i64 0, .int .i64 0, .int .i64 0, .int .i64 0] 44 (0, 0)) := (hb5.block (w.heap.size + 1) (by simp)).trans (by have := heap_alloc_new (w.alloc (.cells #[.int .i64 0, .int .i64 0, .string ⟨#[]⟩, .string ⟨#[]⟩, .int .i64 0, .slice none 0 0, .int .i64 0, .int .i64 0, .int .i64 0, .int .i64 0, .int .i64 0, .int .i64 0, .int .i64 0, .int .i64 0, .int .i64 0, .int .i64 0, .int .i64 0, .int .i64 0, .int .i64 0] 44)) (.cells #[.int .i64 4, .int .i64 0, .string ⟨#[]⟩, .string ⟨#[]⟩, .int .i64 0, .slice none 0 0, .int .i64 0, .int .i64 0, .int .i64 0, .int .i64 0, .int .i64 0, .int .i64 0, .int .i64 0, .int .i64 0, .int .i64 0, .int .i64 0, .int .i64 0, .int .i64 0, .int .i64 0] 44); rwa [World.size_alloc] at this)
    have HTH : Hid (w5.there (w.heap.size + 1) 6 ((cfL c0).toArray).size) := Lib.hid (there_of_row hg5 6 _ (by first | decide | simp [callA, cfL]))
    have hrow6 : W6.heap[w.heap.size + 1]? = some (.cells (stL 4 0 [] [] 0 (.slice none 0 0) c0).toArray 44 (0, 0)) := by rw [← hW6, setCells_row _ _ _ _ hg5, put_conf]
    have HBW : Hid (Below w.heap.size w W6) := Lib.hid (by rw [← hW6]; exact setCells_below (by omega) _ _ _ (HB3.out.trans (hb5.mono HB3.out.size)))
    have HGR : Hid (W6.heap[w.heap.size]? = some (.cells #[.int .i64 0, .int .i64 0, .string ⟨#[]⟩, .string ⟨#[]⟩, .int .i64 0, .slice none 0 0, .int .i64 0, .int .i64 0, .int .i64 0, .int .i64 0, .int .i64 0, .int .i64 0, .int .i64 0, .int .i64 0, .int .i64 0, .int .i64 0, .int .i64 0, .int .i64 0, .int .i64 0] 44 (0, 0))) := Lib.hid (by rw [← hW6, setCells_other (by omega)]; exact (hb5.block w.heap.size (by simp; omega)).trans ((Below.heap_alloc _ _ _ (by simp)).trans (heap_alloc_new w _)))
    have HSZ6 : Hid (w.heap.size + 1 < W6.heap.size) := Lib.hid (Array.getElem?_eq_some_iff.1 hrow6).1
    have HROW := Lib.hid hrow6
    clear hW6 hg5 hrow6 hb5
    have HSLT : Hid (w.heap.size + 1 < W6.drew.heap.size) := Lib.hid HSZ6.out
    have HRLT : Hid (w.heap.size < W6.drew.heap.size) := Lib.hid (by have := HSZ6.out; show w.heap.size < W6.heap.size; omega)
    have HEL : Hid (∃ L, stL 4 0 [] [] 0 (.slice none 0 0) c0 = L) := Lib.hid ⟨_, rfl⟩
    obtain ⟨L, hL⟩ := HEL.out
    have HLL : Hid (stL 4 0 [] [] 0 (.slice none 0 0) c0 = L) := Lib.hid hL
    have HIL : Hid ((Tryd.prog.info? 44).map (·.size) = some L.length) := Lib.hid (by rw [← hL]; exact info30)
    have HIL2 : Hid ((Tryd.prog.info? 44).map (·.size) = some L.toArray.size) := Lib.hid (by rw [← hL]; exact info30)
    have HOS : Hid ((#[.int .i64 0, .int .i64 0, .string ⟨#[]⟩, .string ⟨#[]⟩, .int .i64 0, .slice none 0 0, .int .i64 0, .int .i64 0, .int .i64 0, .int .i64 0, .int .i64 0, .int .i64 0, .int .i64 0, .int .i64 0, .int .i64 0, .int .i64 0, .int .i64 0, .int .i64 0, .int .i64 0] : Array Value).size = L.toArray.size) := Lib.hid (by rw [← hL]; rfl)
    have HOL : Hid (L.toArray.all (·.oneCell') = true) := Lib.hid (by rw [← hL]; exact stL_one _ _ _ _ _ _ _ _ _)
    have HRL : Hid (W6.rangeAt (w.heap.size + 1) 0 L) := Lib.hid (by rw [← hL]; exact range_of_row (HROW.out))
    clear hL HEL
    go_wp2_with (first
      | ((with_reducible refine wpList_store_to (op := ⟨none, _, _, _, _, _⟩) rfl 23 (.tmp 83) (.tmp 81) rfl (w.heap.size + 1) 6 (cfL c0).toArray ?_ ?_ HTH.out (HCL.out c0) (HCO.out c0) HW6.out ?_); rfl; rfl))
    refine wp_region_held_drew (S := fun W => W.rangeAt (w.heap.size + 1) 0 L) (by kernel_rfl) HRL.out (fun hSx => ?_)
    refine wpAnyH_take (i := 0) (oi := ⟨some 84, _, _, _, _, none⟩) (v := .agg L.toArray) rfl (by kernel_rfl) (by kernel_rfl) (by kernel_rfl) (fun _ _ _ h => h) (yieldsIf_load_mid (by kernel_rfl) 44 (.tmp 4) rfl (w.heap.size + 1) 0 rfl L _ (fun W hW => hW) Tryd.underlying44 rfl HIL.out) hSx ?_
    try simp only [Act.put, List.setIfInBounds_toArray]
    refine wpAnyH_take (i := 1) (oi := ⟨some 85, _, _, _, _, none⟩) (v := .bool false) rfl (by kernel_rfl) (by kernel_rfl) (by kernel_rfl) (fun _ _ _ h => h) (Or.inl ⟨by kernel_rfl, ?_⟩) hSx ?_
    · intro wx hSx2; clear hSx; go_simp
    try simp only [Act.put, List.setIfInBounds_toArray]
    refine wpAnyH_take (i := 2) (oi := ⟨some 86, _, _, _, _, none⟩) (v := .bool false) rfl (by kernel_rfl) (by kernel_rfl) (by kernel_rfl) (fun _ _ _ h => h) (Or.inl ⟨by kernel_rfl, ?_⟩) hSx ?_
    · intro wx hSx2; clear hSx; go_simp
    try simp only [Act.put, List.setIfInBounds_toArray]
    refine wpAnyH_take (i := 3) (oi := ⟨some 87, _, _, _, _, some (2, true)⟩) (v := undef) rfl (by kernel_rfl) (by kernel_rfl) (by kernel_rfl) (fun _ _ _ h => h) (Or.inr ⟨by kernel_rfl, rfl⟩) hSx ?_
    try simp only [Act.put, List.setIfInBounds_toArray]
    refine wpAnyH_take (i := 4) (oi := ⟨some 88, _, _, _, _, some (2, true)⟩) (v := undef) rfl (by kernel_rfl) (by kernel_rfl) (by kernel_rfl) (fun _ _ _ h => h) (Or.inr ⟨by kernel_rfl, rfl⟩) hSx ?_
    try simp only [Act.put, List.setIfInBounds_toArray]
    refine wpAnyH_take (i := 5) (oi := ⟨some 89, _, _, _, _, some (2, true)⟩) (v := undef) rfl (by kernel_rfl) (by kernel_rfl) (by kernel_rfl) (fun _ _ _ h => h) (Or.inr ⟨by kernel_rfl, rfl⟩) hSx ?_
    try simp only [Act.put, List.setIfInBounds_toArray]
    refine wpAnyH_take (i := 6) (oi := ⟨some 90, _, _, _, _, none⟩) (v := .bool false) rfl (by kernel_rfl) (by kernel_rfl) (by kernel_rfl) (fun _ _ _ h => h) (Or.inl ⟨by kernel_rfl, ?_⟩) hSx ?_
    · intro wx hSx2; clear hSx; go_simp
    try simp only [Act.put, List.setIfInBounds_toArray]
    have HGZ : Hid ((W6).drew.heap[w.heap.size]? = some (.cells #[.int .i64 0, .int .i64 0, .string ⟨#[]⟩, .string ⟨#[]⟩, .int .i64 0, .slice none 0 0, .int .i64 0, .int .i64 0, .int .i64 0, .int .i64 0, .int .i64 0, .int .i64 0, .int .i64 0, .int .i64 0, .int .i64 0, .int .i64 0, .int .i64 0, .int .i64 0, .int .i64 0] 44 (0, 0))) := HGR
    have HBZ : Hid (Below w.heap.size w (W6).drew) := Lib.hid (below_drew HBW.out)
    refine store_ready 7 (by kernel_rfl) (by kernel_rfl) (by kernel_rfl) 44 (.tmp 2) (.tmp 84) (by kernel_rfl) (by kernel_rfl) w.heap.size L.toArray (by kernel_rfl) (by kernel_rfl) 44 _ HGZ.out HIL2.out HOS.out HOL.out (fun j u hj => (setRow_cell_other (by omega)).trans (hSx j u hj)) (fun hSy => ?_)
    clear hSx
    have hSx := hSy
    clear hSy
    try simp only [Act.put, List.setIfInBounds_toArray]
    refine wpAnyH_take (i := 8) (oi := ⟨some 3, _, _, _, _, none⟩) (v := .bool false) rfl (by kernel_rfl) (by kernel_rfl) (by kernel_rfl) (fun _ _ _ h => h) (Or.inl ⟨by kernel_rfl, ?_⟩) hSx ?_
    · intro wx hSx2; clear hSx; go_simp
    try simp only [Act.put, List.setIfInBounds_toArray]
    refine wpAnyH_done (by kernel_rfl) ?_ _
    go_wp2
    refine bodyPost_ret (results_row2 rfl _ _ w.heap.size 44 L.toArray (0, 0) _ rfl (setRow_heap _ _ _ _ _ _ HGZ.out) Tryd.underlying44 rfl HIL2.out) rfl ?_
    exact ⟨⟨⟨4, 0, [], [], 0, [], c0⟩, none, 0, Kp.nil _, noA, ⟨by simp, by simp, by simp⟩, .inr ⟨by rw [← HLL.out]; rfl, HP.out⟩⟩, below_setRow HBZ.out (Nat.le_refl _) _⟩
  have HCF := Lib.hid (conf32 _ ws.tail _ ((HWS.out.below (Nat.le_refl _) HB3.out).tail h0) (fun x hx => by have := HX.out x (List.mem_of_mem_tail hx); omega))
  cases hcf : confP ws.tail with
  | none =>
    rw [hcf, confV] at HCF
    have HP : Hid (stepP ws = none) := Lib.hid (by rw [stepP, HX0.out, if_neg (by decide), if_neg (by decide), if_pos rfl, hcf])
    clear hcf
    go_enter Tryd.func43, Tryd.ntmps43
    go_wp2_with fail
    refine Calls.mono HCF.out ?_
    rintro e w5 ⟨rfl, hb5⟩
    obtain ⟨W6, hW6⟩ : ∃ W, w5.setCells (w.heap.size + 1) 6 ((cfL c0).toArray).toList = W := ⟨_, rfl⟩
    have HW6 := Lib.hid hW6
    have hg5 : w5.heap[w.heap.size + 1]? = some (.cells #[.int .i64 4, .int .i64 0, .string ⟨#[]⟩, .string ⟨#[]⟩, .int .i64 0, .slice none 0 0, .int .i64 0, .int .i64 0, .int .i64 0, .int .i64 0, .int .i64 0, .int .i64 0, .int .i64 0, .int .i64 0, .int .i64 0, .int .i64 0, .int .i64 0, .int .i64 0, .int .i64 0] 44 (0, 0)) := (hb5.block (w.heap.size + 1) (by simp)).trans (by have := heap_alloc_new (w.alloc (.cells #[.int .i64 0, .int .i64 0, .string ⟨#[]⟩, .string ⟨#[]⟩, .int .i64 0, .slice none 0 0, .int .i64 0, .int .i64 0, .int .i64 0, .int .i64 0, .int .i64 0, .int .i64 0, .int .i64 0, .int .i64 0, .int .i64 0, .int .i64 0, .int .i64 0, .int .i64 0, .int .i64 0] 44)) (.cells #[.int .i64 4, .int .i64 0, .string ⟨#[]⟩, .string ⟨#[]⟩, .int .i64 0, .slice none 0 0, .int .i64 0, .int .i64 0, .int .i64 0, .int .i64 0, .int .i64 0, .int .i64 0, .int .i64 0, .int .i64 0, .int .i64 0, .int .i64 0, .int .i64 0, .int .i64 0, .int .i64 0] 44); rwa [World.size_alloc] at this)
    have HTH : Hid (w5.there (w.heap.size + 1) 6 ((cfL c0).toArray).size) := Lib.hid (there_of_row hg5 6 _ (by first | decide | simp [callA, cfL]))
    have hrow6 : W6.heap[w.heap.size + 1]? = some (.cells (stL 4 0 [] [] 0 (.slice none 0 0) c0).toArray 44 (0, 0)) := by rw [← hW6, setCells_row _ _ _ _ hg5, put_conf]
    have HBW : Hid (Below w.heap.size w W6) := Lib.hid (by rw [← hW6]; exact setCells_below (by omega) _ _ _ (HB3.out.trans (hb5.mono HB3.out.size)))
    have HGR : Hid (W6.heap[w.heap.size]? = some (.cells #[.int .i64 0, .int .i64 0, .string ⟨#[]⟩, .string ⟨#[]⟩, .int .i64 0, .slice none 0 0, .int .i64 0, .int .i64 0, .int .i64 0, .int .i64 0, .int .i64 0, .int .i64 0, .int .i64 0, .int .i64 0, .int .i64 0, .int .i64 0, .int .i64 0, .int .i64 0, .int .i64 0] 44 (0, 0))) := Lib.hid (by rw [← hW6, setCells_other (by omega)]; exact (hb5.block w.heap.size (by simp; omega)).trans ((Below.heap_alloc _ _ _ (by simp)).trans (heap_alloc_new w _)))
    have HSZ6 : Hid (w.heap.size + 1 < W6.heap.size) := Lib.hid (Array.getElem?_eq_some_iff.1 hrow6).1
    have HROW := Lib.hid hrow6
    clear hW6 hg5 hrow6 hb5
    have HSLT : Hid (w.heap.size + 1 < W6.drew.heap.size) := Lib.hid HSZ6.out
    have HRLT : Hid (w.heap.size < W6.drew.heap.size) := Lib.hid (by have := HSZ6.out; show w.heap.size < W6.heap.size; omega)
    have HEL : Hid (∃ L, stL 4 0 [] [] 0 (.slice none 0 0) c0 = L) := Lib.hid ⟨_, rfl⟩
    obtain ⟨L, hL⟩ := HEL.out
    have HLL : Hid (stL 4 0 [] [] 0 (.slice none 0 0) c0 = L) := Lib.hid hL
    have HIL : Hid ((Tryd.prog.info? 44).map (·.size) = some L.length) := Lib.hid (by rw [← hL]; exact info30)
    have HIL2 : Hid ((Tryd.prog.info? 44).map (·.size) = some L.toArray.size) := Lib.hid (by rw [← hL]; exact info30)
    have HOS : Hid ((#[.int .i64 0, .int .i64 0, .string ⟨#[]⟩, .string ⟨#[]⟩, .int .i64 0, .slice none 0 0, .int .i64 0, .int .i64 0, .int .i64 0, .int .i64 0, .int .i64 0, .int .i64 0, .int .i64 0, .int .i64 0, .int .i64 0, .int .i64 0, .int .i64 0, .int .i64 0, .int .i64 0] : Array Value).size = L.toArray.size) := Lib.hid (by rw [← hL]; rfl)
    have HOL : Hid (L.toArray.all (·.oneCell') = true) := Lib.hid (by rw [← hL]; exact stL_one _ _ _ _ _ _ _ _ _)
    have HRL : Hid (W6.rangeAt (w.heap.size + 1) 0 L) := Lib.hid (by rw [← hL]; exact range_of_row (HROW.out))
    clear hL HEL
    go_wp2_with (first
      | ((with_reducible refine wpList_store_to (op := ⟨none, _, _, _, _, _⟩) rfl 23 (.tmp 83) (.tmp 81) rfl (w.heap.size + 1) 6 (cfL c0).toArray ?_ ?_ HTH.out (HCL.out c0) (HCO.out c0) HW6.out ?_); rfl; rfl))
    refine wp_region_held_drew (S := fun W => W.rangeAt (w.heap.size + 1) 0 L) (by kernel_rfl) HRL.out (fun hSx => ?_)
    refine wpAnyH_take (i := 0) (oi := ⟨some 84, _, _, _, _, none⟩) (v := .agg L.toArray) rfl (by kernel_rfl) (by kernel_rfl) (by kernel_rfl) (fun _ _ _ h => h) (yieldsIf_load_mid (by kernel_rfl) 44 (.tmp 4) rfl (w.heap.size + 1) 0 rfl L _ (fun W hW => hW) Tryd.underlying44 rfl HIL.out) hSx ?_
    try simp only [Act.put, List.setIfInBounds_toArray]
    refine wpAnyH_take (i := 1) (oi := ⟨some 85, _, _, _, _, none⟩) (v := .bool false) rfl (by kernel_rfl) (by kernel_rfl) (by kernel_rfl) (fun _ _ _ h => h) (Or.inl ⟨by kernel_rfl, ?_⟩) hSx ?_
    · intro wx hSx2; clear hSx; go_simp
    try simp only [Act.put, List.setIfInBounds_toArray]
    refine wpAnyH_take (i := 2) (oi := ⟨some 86, _, _, _, _, none⟩) (v := .bool false) rfl (by kernel_rfl) (by kernel_rfl) (by kernel_rfl) (fun _ _ _ h => h) (Or.inl ⟨by kernel_rfl, ?_⟩) hSx ?_
    · intro wx hSx2; clear hSx; go_simp
    try simp only [Act.put, List.setIfInBounds_toArray]
    refine wpAnyH_take (i := 3) (oi := ⟨some 87, _, _, _, _, some (2, true)⟩) (v := undef) rfl (by kernel_rfl) (by kernel_rfl) (by kernel_rfl) (fun _ _ _ h => h) (Or.inr ⟨by kernel_rfl, rfl⟩) hSx ?_
    try simp only [Act.put, List.setIfInBounds_toArray]
    refine wpAnyH_take (i := 4) (oi := ⟨some 88, _, _, _, _, some (2, true)⟩) (v := undef) rfl (by kernel_rfl) (by kernel_rfl) (by kernel_rfl) (fun _ _ _ h => h) (Or.inr ⟨by kernel_rfl, rfl⟩) hSx ?_
    try simp only [Act.put, List.setIfInBounds_toArray]
    refine wpAnyH_take (i := 5) (oi := ⟨some 89, _, _, _, _, some (2, true)⟩) (v := undef) rfl (by kernel_rfl) (by kernel_rfl) (by kernel_rfl) (fun _ _ _ h => h) (Or.inr ⟨by kernel_rfl, rfl⟩) hSx ?_
    try simp only [Act.put, List.setIfInBounds_toArray]
    refine wpAnyH_take (i := 6) (oi := ⟨some 90, _, _, _, _, none⟩) (v := .bool false) rfl (by kernel_rfl) (by kernel_rfl) (by kernel_rfl) (fun _ _ _ h => h) (Or.inl ⟨by kernel_rfl, ?_⟩) hSx ?_
    · intro wx hSx2; clear hSx; go_simp
    try simp only [Act.put, List.setIfInBounds_toArray]
    have HGZ : Hid ((W6).drew.heap[w.heap.size]? = some (.cells #[.int .i64 0, .int .i64 0, .string ⟨#[]⟩, .string ⟨#[]⟩, .int .i64 0, .slice none 0 0, .int .i64 0, .int .i64 0, .int .i64 0, .int .i64 0, .int .i64 0, .int .i64 0, .int .i64 0, .int .i64 0, .int .i64 0, .int .i64 0, .int .i64 0, .int .i64 0, .int .i64 0] 44 (0, 0))) := HGR
    have HBZ : Hid (Below w.heap.size w (W6).drew) := Lib.hid (below_drew HBW.out)
    refine store_ready 7 (by kernel_rfl) (by kernel_rfl) (by kernel_rfl) 44 (.tmp 2) (.tmp 84) (by kernel_rfl) (by kernel_rfl) w.heap.size L.toArray (by kernel_rfl) (by kernel_rfl) 44 _ HGZ.out HIL2.out HOS.out HOL.out (fun j u hj => (setRow_cell_other (by omega)).trans (hSx j u hj)) (fun hSy => ?_)
    clear hSx
    have hSx := hSy
    clear hSy
    try simp only [Act.put, List.setIfInBounds_toArray]
    refine wpAnyH_take (i := 8) (oi := ⟨some 3, _, _, _, _, none⟩) (v := .bool false) rfl (by kernel_rfl) (by kernel_rfl) (by kernel_rfl) (fun _ _ _ h => h) (Or.inl ⟨by kernel_rfl, ?_⟩) hSx ?_
    · intro wx hSx2; clear hSx; go_simp
    try simp only [Act.put, List.setIfInBounds_toArray]
    refine wpAnyH_done (by kernel_rfl) ?_ _
    go_wp2
    refine bodyPost_ret (results_row2 rfl _ _ w.heap.size 44 L.toArray (0, 0) _ rfl (setRow_heap _ _ _ _ _ _ HGZ.out) Tryd.underlying44 rfl HIL2.out) rfl ?_
    exact ⟨⟨⟨4, 0, [], [], 0, [], c0⟩, none, 0, Kp.nil _, noA, ⟨by simp, by simp, by simp⟩, .inr ⟨by rw [← HLL.out]; rfl, HP.out⟩⟩, below_setRow HBZ.out (Nat.le_refl _) _⟩
  | some c =>
    rw [hcf, confV] at HCF
    have HPF : Hid (stepP ws = fin ⟨4, 0, [], [], 0, [], c⟩) := Lib.hid (by rw [stepP, HX0.out, if_neg (by decide), if_neg (by decide), if_pos rfl, hcf])
    clear hcf
    cases hm : mayB ⟨4, 0, [], [], 0, [], c⟩
    case false =>
      have HP : Hid (stepP ws = none) := Lib.hid (by rw [HPF.out, fin, hm]; rfl)
      go_enter Tryd.func43, Tryd.ntmps43
      go_wp2_with fail
      refine Calls.mono HCF.out ?_
      rintro e w5 ⟨rfl, hb5⟩
      obtain ⟨W6, hW6⟩ : ∃ W, w5.setCells (w.heap.size + 1) 6 ((cfL c).toArray).toList = W := ⟨_, rfl⟩
      have HW6 := Lib.hid hW6
      have hg5 : w5.heap[w.heap.size + 1]? = some (.cells #[.int .i64 4, .int .i64 0, .string ⟨#[]⟩, .string ⟨#[]⟩, .int .i64 0, .slice none 0 0, .int .i64 0, .int .i64 0, .int .i64 0, .int .i64 0, .int .i64 0, .int .i64 0, .int .i64 0, .int .i64 0, .int .i64 0, .int .i64 0, .int .i64 0, .int .i64 0, .int .i64 0] 44 (0, 0)) := (hb5.block (w.heap.size + 1) (by simp)).trans (by have := heap_alloc_new (w.alloc (.cells #[.int .i64 0, .int .i64 0, .string ⟨#[]⟩, .string ⟨#[]⟩, .int .i64 0, .slice none 0 0, .int .i64 0, .int .i64 0, .int .i64 0, .int .i64 0, .int .i64 0, .int .i64 0, .int .i64 0, .int .i64 0, .int .i64 0, .int .i64 0, .int .i64 0, .int .i64 0, .int .i64 0] 44)) (.cells #[.int .i64 4, .int .i64 0, .string ⟨#[]⟩, .string ⟨#[]⟩, .int .i64 0, .slice none 0 0, .int .i64 0, .int .i64 0, .int .i64 0, .int .i64 0, .int .i64 0, .int .i64 0, .int .i64 0, .int .i64 0, .int .i64 0, .int .i64 0, .int .i64 0, .int .i64 0, .int .i64 0] 44); rwa [World.size_alloc] at this)
      have HTH : Hid (w5.there (w.heap.size + 1) 6 ((cfL c).toArray).size) := Lib.hid (there_of_row hg5 6 _ (by first | decide | simp [cfL]))
      have hrow6 : W6.heap[w.heap.size + 1]? = some (.cells (stL 4 0 [] [] 0 (.slice none 0 0) c).toArray 44 (0, 0)) := by rw [← hW6, setCells_row _ _ _ _ hg5, put_conf]
      have HBW : Hid (Below w.heap.size w W6) := Lib.hid (by rw [← hW6]; exact setCells_below (by omega) _ _ _ (HB3.out.trans (hb5.mono HB3.out.size)))
      have HGR : Hid (W6.heap[w.heap.size]? = some (.cells #[.int .i64 0, .int .i64 0, .string ⟨#[]⟩, .string ⟨#[]⟩, .int .i64 0, .slice none 0 0, .int .i64 0, .int .i64 0, .int .i64 0, .int .i64 0, .int .i64 0, .int .i64 0, .int .i64 0, .int .i64 0, .int .i64 0, .int .i64 0, .int .i64 0, .int .i64 0, .int .i64 0] 44 (0, 0))) := Lib.hid (by rw [← hW6, setCells_other (by omega)]; exact (hb5.block w.heap.size (by simp; omega)).trans ((Below.heap_alloc _ _ _ (by simp)).trans (heap_alloc_new w _)))
      have HSZ6 : Hid (w.heap.size + 1 < W6.heap.size) := Lib.hid (Array.getElem?_eq_some_iff.1 hrow6).1
      have HROW := Lib.hid hrow6
      clear hW6 hg5 hrow6 hb5
      have HSLT : Hid (w.heap.size + 1 < W6.drew.heap.size) := Lib.hid HSZ6.out
      have HRLT : Hid (w.heap.size < W6.drew.heap.size) := Lib.hid (by have := HSZ6.out; show w.heap.size < W6.heap.size; omega)
      have HEL : Hid (∃ L, stL 4 0 [] [] 0 (.slice none 0 0) c = L) := Lib.hid ⟨_, rfl⟩
      obtain ⟨L, hL⟩ := HEL.out
      have HLL : Hid (stL 4 0 [] [] 0 (.slice none 0 0) c = L) := Lib.hid hL
      have HIL : Hid ((Tryd.prog.info? 44).map (·.size) = some L.length) := Lib.hid (by rw [← hL]; exact info30)
      have HIL2 : Hid ((Tryd.prog.info? 44).map (·.size) = some L.toArray.size) := Lib.hid (by rw [← hL]; exact info30)
      have HOS : Hid ((#[.int .i64 0, .int .i64 0, .string ⟨#[]⟩, .string ⟨#[]⟩, .int .i64 0, .slice none 0 0, .int .i64 0, .int .i64 0, .int .i64 0, .int .i64 0, .int .i64 0, .int .i64 0, .int .i64 0, .int .i64 0, .int .i64 0, .int .i64 0, .int .i64 0, .int .i64 0, .int .i64 0] : Array Value).size = L.toArray.size) := Lib.hid (by rw [← hL]; rfl)
      have HOL : Hid (L.toArray.all (·.oneCell') = true) := Lib.hid (by rw [← hL]; exact stL_one _ _ _ _ _ _ _ _ _)
      have HRL : Hid (W6.rangeAt (w.heap.size + 1) 0 L) := Lib.hid (by rw [← hL]; exact range_of_row (HROW.out))
      clear hL HEL
      have HCK : Hid (∀ w', Below W6.heap.size W6 w' → Calls Tryd.prog 28 #[.agg L.toArray] w' fun e w'' => e = .returned (.int .i64 1) ∧ Below w'.heap.size w' w'') := Lib.hid (fun w' hb => by
        have := check11 ⟨4, 0, [], [], 0, [], c⟩ none 0 w' (Kp.nil _) ⟨by simp, by simp, by simp⟩
        rw [hm, show (⟨4, 0, [], [], 0, [], c⟩ : St).A (.slice none ([] : List Bool).length 0) = L.toArray from congrArg List.toArray HLL.out] at this
        exact this)
      clear hm
      go_wp2_with (first
        | ((with_reducible refine wpList_store_to (op := ⟨none, _, _, _, _, _⟩) rfl 23 (.tmp 83) (.tmp 81) rfl (w.heap.size + 1) 6 (cfL c).toArray ?_ ?_ HTH.out (HCL.out c) (HCO.out c) HW6.out ?_); rfl; rfl))
      refine wp_region_held_drew (S := fun W => W.rangeAt (w.heap.size + 1) 0 L) (by kernel_rfl) HRL.out (fun hSx => ?_)
      refine wpAnyH_take (i := 0) (oi := ⟨some 84, _, _, _, _, none⟩) (v := .agg L.toArray) rfl (by kernel_rfl) (by kernel_rfl) (by kernel_rfl) (fun _ _ _ h => h) (yieldsIf_load_mid (by kernel_rfl) 44 (.tmp 4) rfl (w.heap.size + 1) 0 rfl L _ (fun W hW => hW) Tryd.underlying44 rfl HIL.out) hSx ?_
      try simp only [Act.put, List.setIfInBounds_toArray]
      refine wpAnyH_take (i := 1) (oi := ⟨some 85, _, _, _, _, none⟩) (v := .bool true) rfl (by kernel_rfl) (by kernel_rfl) (by kernel_rfl) (fun _ _ _ h => h) (Or.inl ⟨by kernel_rfl, ?_⟩) hSx ?_
      · intro wx hSx2; clear hSx; go_simp
      try simp only [Act.put, List.setIfInBounds_toArray]
      refine wpAnyH_take (i := 2) (oi := ⟨some 86, _, _, _, _, none⟩) (v := .bool true) rfl (by kernel_rfl) (by kernel_rfl) (by kernel_rfl) (fun _ _ _ h => h) (Or.inl ⟨by kernel_rfl, ?_⟩) hSx ?_
      · intro wx hSx2; clear hSx; go_simp
      try simp only [Act.put, List.setIfInBounds_toArray]
      refine wpAnyH_take (i := 3) (oi := ⟨some 87, _, _, _, _, some (2, true)⟩) (v := .agg L.toArray) rfl (by kernel_rfl) (by kernel_rfl) (by kernel_rfl) (fun _ _ _ h => h) (yieldsIf_load_mid (by kernel_rfl) 44 (.tmp 4) rfl (w.heap.size + 1) 0 rfl L _ (fun W hW => hW) Tryd.underlying44 rfl HIL.out) hSx ?_
      try simp only [Act.put, List.setIfInBounds_toArray]
      refine wpAnyH_ready (rs := [4]) (by kernel_rfl) (by simp) ?_
      refine AllReadyH.cons (o := ⟨some 88, _, _, _, _, some (2, true)⟩) rfl (fun KK hKK => ?_) AllReadyH.nil
      go_simp
      refine (HCK.out _ (bdrew (Below.refl _ _))).mono ?_
      rintro e wz ⟨rfl, hbz⟩
      have hSz : wz.rangeAt (w.heap.size + 1) 0 L := fun j u hj => (hbz.cell (p := ⟨(w.heap.size + 1), 0 + j, none⟩) HSLT.out).trans (hSx j u hj)
      refine hKK.out _ _ hSz (fun hSy => ?_)
      clear hKK hSx hSz
      have hSx := hSy
      clear hSy KK
      try simp only [Act.put, List.setIfInBounds_toArray, List.set_cons_zero, List.set_cons_succ]
      have HGZ : Hid (wz.heap[w.heap.size]? = some (.cells #[.int .i64 0, .int .i64 0, .string ⟨#[]⟩, .string ⟨#[]⟩, .int .i64 0, .slice none 0 0, .int .i64 0, .int .i64 0, .int .i64 0, .int .i64 0, .int .i64 0, .int .i64 0, .int .i64 0, .int .i64 0, .int .i64 0, .int .i64 0, .int .i64 0, .int .i64 0, .int .i64 0] 44 (0, 0))) := Lib.hid ((hbz.block w.heap.size HRLT.out).trans HGR.out)
      have HBZ : Hid (Below w.heap.size w wz) := Lib.hid ((below_drew HBW.out).trans (hbz.mono (below_drew HBW.out).size))
      refine wpAnyH_take (i := 5) (oi := ⟨some 89, _, _, _, _, some (2, true)⟩) (v := .bool false) rfl (by kernel_rfl) (by kernel_rfl) (by kernel_rfl) (fun _ _ _ h => h) (Or.inl ⟨by kernel_rfl, ?_⟩) hSx ?_
      · intro wx hSx2; clear hSx; go_simp
      try simp only [Act.put, List.setIfInBounds_toArray]
      refine wpAnyH_take (i := 6) (oi := ⟨some 90, _, _, _, _, none⟩) (v := .bool false) rfl (by kernel_rfl) (by kernel_rfl) (by kernel_rfl) (fun _ _ _ h => h) (Or.inl ⟨by kernel_rfl, ?_⟩) hSx ?_
      · intro wx hSx2; clear hSx; go_simp
      try simp only [Act.put, List.setIfInBounds_toArray]
      refine store_ready 7 (by kernel_rfl) (by kernel_rfl) (by kernel_rfl) 44 (.tmp 2) (.tmp 84) (by kernel_rfl) (by kernel_rfl) w.heap.size L.toArray (by kernel_rfl) (by kernel_rfl) 44 _ HGZ.out HIL2.out HOS.out HOL.out (fun j u hj => (setRow_cell_other (by omega)).trans (hSx j u hj)) (fun hSy => ?_)
      clear hSx
      have hSx := hSy
      clear hSy
      try simp only [Act.put, List.setIfInBounds_toArray]
      refine wpAnyH_take (i := 8) (oi := ⟨some 3, _, _, _, _, none⟩) (v := .bool false) rfl (by kernel_rfl) (by kernel_rfl) (by kernel_rfl) (fun _ _ _ h => h) (Or.inl ⟨by kernel_rfl, ?_⟩) hSx ?_
      · intro wx hSx2; clear hSx; go_simp
      try simp only [Act.put, List.setIfInBounds_toArray]
      refine wpAnyH_done (by kernel_rfl) ?_ _
      go_wp2
      refine bodyPost_ret (results_row2 rfl _ _ w.heap.size 44 L.toArray (0, 0) _ rfl (setRow_heap _ _ _ _ _ _ HGZ.out) Tryd.underlying44 rfl HIL2.out) rfl ?_
      exact ⟨⟨⟨4, 0, [], [], 0, [], c⟩, none, 0, Kp.nil _, noA, ⟨by simp, by simp, by simp⟩, .inr ⟨by rw [← HLL.out]; rfl, HP.out⟩⟩, below_setRow HBZ.out (Nat.le_refl _) _⟩
    case true =>
      have HP : Hid (stepP ws = some ⟨4, 0, [], [], 0, [], c⟩) := Lib.hid (by rw [HPF.out, fin, hm]; rfl)
      go_enter Tryd.func43, Tryd.ntmps43
      go_wp2_with fail
      refine Calls.mono HCF.out ?_
      rintro e w5 ⟨rfl, hb5⟩
      obtain ⟨W6, hW6⟩ : ∃ W, w5.setCells (w.heap.size + 1) 6 ((cfL c).toArray).toList = W := ⟨_, rfl⟩
      have HW6 := Lib.hid hW6
      have hg5 : w5.heap[w.heap.size + 1]? = some (.cells #[.int .i64 4, .int .i64 0, .string ⟨#[]⟩, .string ⟨#[]⟩, .int .i64 0, .slice none 0 0, .int .i64 0, .int .i64 0, .int .i64 0, .int .i64 0, .int .i64 0, .int .i64 0, .int .i64 0, .int .i64 0, .int .i64 0, .int .i64 0, .int .i64 0, .int .i64 0, .int .i64 0] 44 (0, 0)) := (hb5.block (w.heap.size + 1) (by simp)).trans (by have := heap_alloc_new (w.alloc (.cells #[.int .i64 0, .int .i64 0, .string ⟨#[]⟩, .string ⟨#[]⟩, .int .i64 0, .slice none 0 0, .int .i64 0, .int .i64 0, .int .i64 0, .int .i64 0, .int .i64 0, .int .i64 0, .int .i64 0, .int .i64 0, .int .i64 0, .int .i64 0, .int .i64 0, .int .i64 0, .int .i64 0] 44)) (.cells #[.int .i64 4, .int .i64 0, .string ⟨#[]⟩, .string ⟨#[]⟩, .int .i64 0, .slice none 0 0, .int .i64 0, .int .i64 0, .int .i64 0, .int .i64 0, .int .i64 0, .int .i64 0, .int .i64 0, .int .i64 0, .int .i64 0, .int .i64 0, .int .i64 0, .int .i64 0, .int .i64 0] 44); rwa [World.size_alloc] at this)
      have HTH : Hid (w5.there (w.heap.size + 1) 6 ((cfL c).toArray).size) := Lib.hid (there_of_row hg5 6 _ (by first | decide | simp [cfL]))
      have hrow6 : W6.heap[w.heap.size + 1]? = some (.cells (stL 4 0 [] [] 0 (.slice none 0 0) c).toArray 44 (0, 0)) := by rw [← hW6, setCells_row _ _ _ _ hg5, put_conf]
      have HBW : Hid (Below w.heap.size w W6) := Lib.hid (by rw [← hW6]; exact setCells_below (by omega) _ _ _ (HB3.out.trans (hb5.mono HB3.out.size)))
      have HGR : Hid (W6.heap[w.heap.size]? = some (.cells #[.int .i64 0, .int .i64 0, .string ⟨#[]⟩, .string ⟨#[]⟩, .int .i64 0, .slice none 0 0, .int .i64 0, .int .i64 0, .int .i64 0, .int .i64 0, .int .i64 0, .int .i64 0, .int .i64 0, .int .i64 0, .int .i64 0, .int .i64 0, .int .i64 0, .int .i64 0, .int .i64 0] 44 (0, 0))) := Lib.hid (by rw [← hW6, setCells_other (by omega)]; exact (hb5.block w.heap.size (by simp; omega)).trans ((Below.heap_alloc _ _ _ (by simp)).trans (heap_alloc_new w _)))
      have HSZ6 : Hid (w.heap.size + 1 < W6.heap.size) := Lib.hid (Array.getElem?_eq_some_iff.1 hrow6).1
      have HROW := Lib.hid hrow6
      clear hW6 hg5 hrow6 hb5
      have HSLT : Hid (w.heap.size + 1 < W6.drew.heap.size) := Lib.hid HSZ6.out
      have HRLT : Hid (w.heap.size < W6.drew.heap.size) := Lib.hid (by have := HSZ6.out; show w.heap.size < W6.heap.size; omega)
      have HEL : Hid (∃ L, stL 4 0 [] [] 0 (.slice none 0 0) c = L) := Lib.hid ⟨_, rfl⟩
      obtain ⟨L, hL⟩ := HEL.out
      have HLL : Hid (stL 4 0 [] [] 0 (.slice none 0 0) c = L) := Lib.hid hL
      have HIL : Hid ((Tryd.prog.info? 44).map (·.size) = some L.length) := Lib.hid (by rw [← hL]; exact info30)
      have HIL2 : Hid ((Tryd.prog.info? 44).map (·.size) = some L.toArray.size) := Lib.hid (by rw [← hL]; exact info30)
      have HOS : Hid ((#[.int .i64 0, .int .i64 0, .string ⟨#[]⟩, .string ⟨#[]⟩, .int .i64 0, .slice none 0 0, .int .i64 0, .int .i64 0, .int .i64 0, .int .i64 0, .int .i64 0, .int .i64 0, .int .i64 0, .int .i64 0, .int .i64 0, .int .i64 0, .int .i64 0, .int .i64 0, .int .i64 0] : Array Value).size = L.toArray.size) := Lib.hid (by rw [← hL]; rfl)
      have HOL : Hid (L.toArray.all (·.oneCell') = true) := Lib.hid (by rw [← hL]; exact stL_one _ _ _ _ _ _ _ _ _)
      have HRL : Hid (W6.rangeAt (w.heap.size + 1) 0 L) := Lib.hid (by rw [← hL]; exact range_of_row (HROW.out))
      clear hL HEL
      have HCK : Hid (∀ w', Below W6.heap.size W6 w' → Calls Tryd.prog 28 #[.agg L.toArray] w' fun e w'' => e = .returned (.int .i64 0) ∧ Below w'.heap.size w' w'') := Lib.hid (fun w' hb => by
        have := check11 ⟨4, 0, [], [], 0, [], c⟩ none 0 w' (Kp.nil _) ⟨by simp, by simp, by simp⟩
        rw [hm, show (⟨4, 0, [], [], 0, [], c⟩ : St).A (.slice none ([] : List Bool).length 0) = L.toArray from congrArg List.toArray HLL.out] at this
        exact this)
      clear hm
      go_wp2_with (first
        | ((with_reducible refine wpList_store_to (op := ⟨none, _, _, _, _, _⟩) rfl 23 (.tmp 83) (.tmp 81) rfl (w.heap.size + 1) 6 (cfL c).toArray ?_ ?_ HTH.out (HCL.out c) (HCO.out c) HW6.out ?_); rfl; rfl))
      refine wp_region_held_drew (S := fun W => W.rangeAt (w.heap.size + 1) 0 L) (by kernel_rfl) HRL.out (fun hSx => ?_)
      refine wpAnyH_take (i := 0) (oi := ⟨some 84, _, _, _, _, none⟩) (v := .agg L.toArray) rfl (by kernel_rfl) (by kernel_rfl) (by kernel_rfl) (fun _ _ _ h => h) (yieldsIf_load_mid (by kernel_rfl) 44 (.tmp 4) rfl (w.heap.size + 1) 0 rfl L _ (fun W hW => hW) Tryd.underlying44 rfl HIL.out) hSx ?_
      try simp only [Act.put, List.setIfInBounds_toArray]
      refine wpAnyH_take (i := 1) (oi := ⟨some 85, _, _, _, _, none⟩) (v := .bool true) rfl (by kernel_rfl) (by kernel_rfl) (by kernel_rfl) (fun _ _ _ h => h) (Or.inl ⟨by kernel_rfl, ?_⟩) hSx ?_
      · intro wx hSx2; clear hSx; go_simp
      try simp only [Act.put, List.setIfInBounds_toArray]
      refine wpAnyH_take (i := 2) (oi := ⟨some 86, _, _, _, _, none⟩) (v := .bool true) rfl (by kernel_rfl) (by kernel_rfl) (by kernel_rfl) (fun _ _ _ h => h) (Or.inl ⟨by kernel_rfl, ?_⟩) hSx ?_
      · intro wx hSx2; clear hSx; go_simp
      try simp only [Act.put, List.setIfInBounds_toArray]
      refine wpAnyH_take (i := 3) (oi := ⟨some 87, _, _, _, _, some (2, true)⟩) (v := .agg L.toArray) rfl (by kernel_rfl) (by kernel_rfl) (by kernel_rfl) (fun _ _ _ h => h) (yieldsIf_load_mid (by kernel_rfl) 44 (.tmp 4) rfl (w.heap.size + 1) 0 rfl L _ (fun W hW => hW) Tryd.underlying44 rfl HIL.out) hSx ?_
      try simp only [Act.put, List.setIfInBounds_toArray]
      refine wpAnyH_ready (rs := [4]) (by kernel_rfl) (by simp) ?_
      refine AllReadyH.cons (o := ⟨some 88, _, _, _, _, some (2, true)⟩) rfl (fun KK hKK => ?_) AllReadyH.nil
      go_simp
      refine (HCK.out _ (bdrew (Below.refl _ _))).mono ?_
      rintro e wz ⟨rfl, hbz⟩
      have hSz : wz.rangeAt (w.heap.size + 1) 0 L := fun j u hj => (hbz.cell (p := ⟨(w.heap.size + 1), 0 + j, none⟩) HSLT.out).trans (hSx j u hj)
      refine hKK.out _ _ hSz (fun hSy => ?_)
      clear hKK hSx hSz
      have hSx := hSy
      clear hSy KK
      try simp only [Act.put, List.setIfInBounds_toArray, List.set_cons_zero, List.set_cons_succ]
      have HGZ : Hid (wz.heap[w.heap.size]? = some (.cells #[.int .i64 0, .int .i64 0, .string ⟨#[]⟩, .string ⟨#[]⟩, .int .i64 0, .slice none 0 0, .int .i64 0, .int .i64 0, .int .i64 0, .int .i64 0, .int .i64 0, .int .i64 0, .int .i64 0, .int .i64 0, .int .i64 0, .int .i64 0, .int .i64 0, .int .i64 0, .int .i64 0] 44 (0, 0))) := Lib.hid ((hbz.block w.heap.size HRLT.out).trans HGR.out)
      have HBZ : Hid (Below w.heap.size w wz) := Lib.hid ((below_drew HBW.out).trans (hbz.mono (below_drew HBW.out).size))
      refine wpAnyH_take (i := 5) (oi := ⟨some 89, _, _, _, _, some (2, true)⟩) (v := .bool true) rfl (by kernel_rfl) (by kernel_rfl) (by kernel_rfl) (fun _ _ _ h => h) (Or.inl ⟨by kernel_rfl, ?_⟩) hSx ?_
      · intro wx hSx2; clear hSx; go_simp
      try simp only [Act.put, List.setIfInBounds_toArray]
      refine wpAnyH_take (i := 6) (oi := ⟨some 90, _, _, _, _, none⟩) (v := .bool true) rfl (by kernel_rfl) (by kernel_rfl) (by kernel_rfl) (fun _ _ _ h => h) (Or.inl ⟨by kernel_rfl, ?_⟩) hSx ?_
      · intro wx hSx2; clear hSx; go_simp
      try simp only [Act.put, List.setIfInBounds_toArray]
      refine store_ready 7 (by kernel_rfl) (by kernel_rfl) (by kernel_rfl) 44 (.tmp 2) (.tmp 84) (by kernel_rfl) (by kernel_rfl) w.heap.size L.toArray (by kernel_rfl) (by kernel_rfl) 44 _ HGZ.out HIL2.out HOS.out HOL.out (fun j u hj => (setRow_cell_other (by omega)).trans (hSx j u hj)) (fun hSy => ?_)
      clear hSx
      have hSx := hSy
      clear hSy
      try simp only [Act.put, List.setIfInBounds_toArray]
      refine wpAnyH_take (i := 8) (oi := ⟨some 3, _, _, _, _, none⟩) (v := .bool true) rfl (by kernel_rfl) (by kernel_rfl) (by kernel_rfl) (fun _ _ _ h => h) (Or.inl ⟨by kernel_rfl, ?_⟩) hSx ?_
      · intro wx hSx2; clear hSx; go_simp
      try simp only [Act.put, List.setIfInBounds_toArray]
      refine wpAnyH_done (by kernel_rfl) ?_ _
      go_wp2
      refine bodyPost_ret (results_row2 rfl _ _ w.heap.size 44 L.toArray (0, 0) _ rfl (setRow_heap _ _ _ _ _ _ HGZ.out) Tryd.underlying44 rfl HIL2.out) rfl ?_
      exact ⟨⟨⟨4, 0, [], [], 0, [], c⟩, none, 0, Kp.nil _, noA, ⟨by simp, by simp, by simp⟩, .inl ⟨by rw [← HLL.out]; rfl, HP.out⟩⟩, below_setRow HBZ.out (Nat.le_refl _) _⟩
set_option maxRecDepth 100000 in
set_option maxHeartbeats 2000000 in
theorem step17_call (v : Value) (ws : List (List UInt8)) (w : World) (hw : Ws w v ws) (h0 : ws ≠ []) (hx : ∀ x ∈ ws, x.length ≤ 100000) (hkk : ws.getD 0 [] ≠ fuseW ∧ ws.getD 0 [] ≠ powerW ∧ ws.getD 0 [] ≠ confW) :
    Calls Tryd.prog 43 #[v] w fun e w' => StepEnd w.heap.size ws e w' ∧ Below w.heap.size w w' := by
  obtain ⟨b, o, cp, rfl, hlt, hcap, hc⟩ := hw.2 h0
  have HWS := Lib.hid hw
  have HC := Lib.hid hc
  have HX := Lib.hid hx
  have HLT := Lib.hid hlt
  have hlen : 0 < ws.length := List.length_pos_iff.2 h0
  have hlenI : (0 : Int) < (ws.length : Int) := by omega
  have HEX : Hid (∃ x, ws.getD 0 [] = x) := Lib.hid ⟨_, rfl⟩
  obtain ⟨x0, hx0⟩ := HEX.out
  have HCE0 : Hid (∀ W, Below w.heap.size w W → W.cell? ⟨b, o, none⟩ = some (.string (str x0))) := Lib.hid (fun W hb => by
    have := hc 0 hlen
    rw [hx0, Nat.add_zero] at this
    rw [hb.cell (p := ⟨b, o, none⟩) hlt]
    exact this)
  have HB2 : Hid (Below w.heap.size w ((w.alloc (.cells #[.int .i64 0, .int .i64 0, .string ⟨#[]⟩, .string ⟨#[]⟩, .int .i64 0, .slice none 0 0, .int .i64 0, .int .i64 0, .int .i64 0, .int .i64 0, .int .i64 0, .int .i64 0, .int .i64 0, .int .i64 0, .int .i64 0, .int .i64 0, .int .i64 0, .int .i64 0, .int .i64 0] 44)).alloc (.cells #[.int .i64 0, .int .i64 0, .string ⟨#[]⟩, .string ⟨#[]⟩, .int .i64 0, .slice none 0 0, .int .i64 0, .int .i64 0, .int .i64 0, .int .i64 0, .int .i64 0, .int .i64 0, .int .i64 0, .int .i64 0, .int .i64 0, .int .i64 0, .int .i64 0, .int .i64 0, .int .i64 0] 44))) := Lib.hid (((Below.refl _ _).alloc (Nat.le_refl _) _).alloc (by simp) _)
  have hc2 := HCE0.out _ HB2.out
  rw [hx0] at hkk
  have HX0 := Lib.hid hx0
  clear hc hx hw hx0 HEX hlt
  obtain ⟨n1, n2, n3⟩ := hkk
  have t1 : ((str x0).toList == [102, 117, 115, 101]) = false := by rw [str_toList]; simpa [fuseW] using n1
  have t2 : ((str x0).toList == [112, 111, 119, 101, 114]) = false := by rw [str_toList]; simpa [powerW] using n2
  have t3 : ((str x0).toList == [99, 111, 110, 102]) = false := by rw [str_toList]; simpa [confW] using n3
  have HB3 : Hid (Below w.heap.size w ((w.alloc (.cells #[.int .i64 0, .int .i64 0, .string ⟨#[]⟩, .string ⟨#[]⟩, .int .i64 0, .slice none 0 0, .int .i64 0, .int .i64 0, .int .i64 0, .int .i64 0, .int .i64 0, .int .i64 0, .int .i64 0, .int .i64 0, .int .i64 0, .int .i64 0, .int .i64 0, .int .i64 0, .int .i64 0] 44)).alloc (.cells #[.int .i64 1, .int .i64 0, .string ⟨#[]⟩, .string ⟨#[]⟩, .int .i64 0, .slice none 0 0, .int .i64 0, .int .i64 0, .int .i64 0, .int .i64 0, .int .i64 0, .int .i64 0, .int .i64 0, .int .i64 0, .int .i64 0, .int .i64 0, .int .i64 0, .int .i64 0, .int .i64 0] 44))) := Lib.hid (((Below.refl _ _).alloc (Nat.le_refl _) _).alloc (by simp) _)
  have HCF := Lib.hid (called33 _ ws _ (HWS.out.below (Nat.le_refl _) HB3.out) h0 HX.out)
  have HSP : Hid (stepP ws = match calledP ws with | some (op, nm, dt) => fin ⟨1, op, nm, dt, 0, [], c0⟩ | none => none) := Lib.hid (by rw [stepP, HX0.out, if_neg n1, if_neg n2, if_neg n3]; rfl)
  have HCO : Hid (∀ op nm dt, (callA op nm dt).all (·.oneCell') = true) := Lib.hid (fun op nm dt => by simp [callA, Value.oneCell'])
  have HCL : Hid (∀ op nm dt, (Tryd.prog.info? 41).map (·.size) = some (callA op nm dt).size) := Lib.hid (fun op nm dt => info25)
  clear n1 n2 n3
  go_enter Tryd.func43, Tryd.ntmps43
  go_wp2_with fail
  refine Calls.mono HCF.out ?_
  rintro e w5 ⟨⟨op, nm, dt, ⟨hl1, hl2⟩, hcase⟩, hb5⟩
  have HL1 := Lib.hid hl1
  have HL2 := Lib.hid hl2
  clear hl1 hl2
  obtain ⟨W6, hW6⟩ : ∃ W, w5.setCells (w.heap.size + 1) 1 (callA op nm dt).toList = W := ⟨_, rfl⟩
  have HW6 := Lib.hid hW6
  have hg5 : w5.heap[w.heap.size + 1]? = some (.cells #[.int .i64 1, .int .i64 0, .string ⟨#[]⟩, .string ⟨#[]⟩, .int .i64 0, .slice none 0 0, .int .i64 0, .int .i64 0, .int .i64 0, .int .i64 0, .int .i64 0, .int .i64 0, .int .i64 0, .int .i64 0, .int .i64 0, .int .i64 0, .int .i64 0, .int .i64 0, .int .i64 0] 44 (0, 0)) := (hb5.block (w.heap.size + 1) (by simp)).trans (by have := heap_alloc_new (w.alloc (.cells #[.int .i64 0, .int .i64 0, .string ⟨#[]⟩, .string ⟨#[]⟩, .int .i64 0, .slice none 0 0, .int .i64 0, .int .i64 0, .int .i64 0, .int .i64 0, .int .i64 0, .int .i64 0, .int .i64 0, .int .i64 0, .int .i64 0, .int .i64 0, .int .i64 0, .int .i64 0, .int .i64 0] 44)) (.cells #[.int .i64 1, .int .i64 0, .string ⟨#[]⟩, .string ⟨#[]⟩, .int .i64 0, .slice none 0 0, .int .i64 0, .int .i64 0, .int .i64 0, .int .i64 0, .int .i64 0, .int .i64 0, .int .i64 0, .int .i64 0, .int .i64 0, .int .i64 0, .int .i64 0, .int .i64 0, .int .i64 0] 44); rwa [World.size_alloc] at this)
  have HTH : Hid (w5.there (w.heap.size + 1) 1 (callA op nm dt).size) := Lib.hid (there_of_row hg5 1 _ (by first | decide | simp [callA]))
  have hrow6 : W6.heap[w.heap.size + 1]? = some (.cells (stL 1 op nm dt 0 (.slice none 0 0) c0).toArray 44 (0, 0)) := by rw [← hW6, setCells_row _ _ _ _ hg5, put_call]
  have HBW : Hid (Below w.heap.size w W6) := Lib.hid (by rw [← hW6]; exact setCells_below (by omega) _ _ _ (HB3.out.trans (hb5.mono HB3.out.size)))
  have HGR : Hid (W6.heap[w.heap.size]? = some (.cells #[.int .i64 0, .int .i64 0, .string ⟨#[]⟩, .string ⟨#[]⟩, .int .i64 0, .slice none 0 0, .int .i64 0, .int .i64 0, .int .i64 0, .int .i64 0, .int .i64 0, .int .i64 0, .int .i64 0, .int .i64 0, .int .i64 0, .int .i64 0, .int .i64 0, .int .i64 0, .int .i64 0] 44 (0, 0))) := Lib.hid (by rw [← hW6, setCells_other (by omega)]; exact (hb5.block w.heap.size (by simp; omega)).trans ((Below.heap_alloc _ _ _ (by simp)).trans (heap_alloc_new w _)))
  have HSZ6 : Hid (w.heap.size + 1 < W6.heap.size) := Lib.hid (Array.getElem?_eq_some_iff.1 hrow6).1
  have HROW := Lib.hid hrow6
  clear hW6 hg5 hrow6 hb5
  have HSLT : Hid (w.heap.size + 1 < W6.drew.heap.size) := Lib.hid HSZ6.out
  have HRLT : Hid (w.heap.size < W6.drew.heap.size) := Lib.hid (by have := HSZ6.out; show w.heap.size < W6.heap.size; omega)
  have HEL : Hid (∃ L, stL 1 op nm dt 0 (.slice none 0 0) c0 = L) := Lib.hid ⟨_, rfl⟩
  obtain ⟨L, hL⟩ := HEL.out
  have HLL : Hid (stL 1 op nm dt 0 (.slice none 0 0) c0 = L) := Lib.hid hL
  have HIL : Hid ((Tryd.prog.info? 44).map (·.size) = some L.length) := Lib.hid (by rw [← hL]; exact info30)
  have HIL2 : Hid ((Tryd.prog.info? 44).map (·.size) = some L.toArray.size) := Lib.hid (by rw [← hL]; exact info30)
  have HOS : Hid ((#[.int .i64 0, .int .i64 0, .string ⟨#[]⟩, .string ⟨#[]⟩, .int .i64 0, .slice none 0 0, .int .i64 0, .int .i64 0, .int .i64 0, .int .i64 0, .int .i64 0, .int .i64 0, .int .i64 0, .int .i64 0, .int .i64 0, .int .i64 0, .int .i64 0, .int .i64 0, .int .i64 0] : Array Value).size = L.toArray.size) := Lib.hid (by rw [← hL]; rfl)
  have HOL : Hid (L.toArray.all (·.oneCell') = true) := Lib.hid (by rw [← hL]; exact stL_one _ _ _ _ _ _ _ _ _)
  have HRL : Hid (W6.rangeAt (w.heap.size + 1) 0 L) := Lib.hid (by rw [← hL]; exact range_of_row (HROW.out))
  clear hL HEL
  rcases hcase with ⟨rfl, hP0⟩ | ⟨rfl, hP0⟩
  case inr =>
    have HP : Hid (stepP ws = none) := Lib.hid (by rw [HSP.out, hP0])
    clear hP0
    go_wp2_with (first
    | ((with_reducible refine wpList_store_to (op := ⟨none, _, _, _, _, _⟩) rfl 41 (.tmp 16) (.tmp 14) rfl (w.heap.size + 1) 1 (callA op nm dt) ?_ ?_ HTH.out (HCL.out op nm dt) (HCO.out op nm dt) HW6.out ?_); rfl; rfl))
    refine wp_region_held_drew (S := fun W => W.rangeAt (w.heap.size + 1) 0 L) (by kernel_rfl) HRL.out (fun hSx => ?_)
    refine wpAnyH_take (i := 0) (oi := ⟨some 84, _, _, _, _, none⟩) (v := .agg L.toArray) rfl (by kernel_rfl) (by kernel_rfl) (by kernel_rfl) (fun _ _ _ h => h) (yieldsIf_load_mid (by kernel_rfl) 44 (.tmp 4) rfl (w.heap.size + 1) 0 rfl L _ (fun W hW => hW) Tryd.underlying44 rfl HIL.out) hSx ?_
    try simp only [Act.put, List.setIfInBounds_toArray]
    refine wpAnyH_take (i := 1) (oi := ⟨some 85, _, _, _, _, none⟩) (v := .bool false) rfl (by kernel_rfl) (by kernel_rfl) (by kernel_rfl) (fun _ _ _ h => h) (Or.inl ⟨by kernel_rfl, ?_⟩) hSx ?_
    · intro wx hSx2; clear hSx; go_simp
    try simp only [Act.put, List.setIfInBounds_toArray]
    refine wpAnyH_take (i := 2) (oi := ⟨some 86, _, _, _, _, none⟩) (v := .bool false) rfl (by kernel_rfl) (by kernel_rfl) (by kernel_rfl) (fun _ _ _ h => h) (Or.inl ⟨by kernel_rfl, ?_⟩) hSx ?_
    · intro wx hSx2; clear hSx; go_simp
    try simp only [Act.put, List.setIfInBounds_toArray]
    refine wpAnyH_take (i := 3) (oi := ⟨some 87, _, _, _, _, some (2, true)⟩) (v := undef) rfl (by kernel_rfl) (by kernel_rfl) (by kernel_rfl) (fun _ _ _ h => h) (Or.inr ⟨by kernel_rfl, rfl⟩) hSx ?_
    try simp only [Act.put, List.setIfInBounds_toArray]
    refine wpAnyH_take (i := 4) (oi := ⟨some 88, _, _, _, _, some (2, true)⟩) (v := undef) rfl (by kernel_rfl) (by kernel_rfl) (by kernel_rfl) (fun _ _ _ h => h) (Or.inr ⟨by kernel_rfl, rfl⟩) hSx ?_
    try simp only [Act.put, List.setIfInBounds_toArray]
    refine wpAnyH_take (i := 5) (oi := ⟨some 89, _, _, _, _, some (2, true)⟩) (v := undef) rfl (by kernel_rfl) (by kernel_rfl) (by kernel_rfl) (fun _ _ _ h => h) (Or.inr ⟨by kernel_rfl, rfl⟩) hSx ?_
    try simp only [Act.put, List.setIfInBounds_toArray]
    refine wpAnyH_take (i := 6) (oi := ⟨some 90, _, _, _, _, none⟩) (v := .bool false) rfl (by kernel_rfl) (by kernel_rfl) (by kernel_rfl) (fun _ _ _ h => h) (Or.inl ⟨by kernel_rfl, ?_⟩) hSx ?_
    · intro wx hSx2; clear hSx; go_simp
    try simp only [Act.put, List.setIfInBounds_toArray]
    have HGZ : Hid ((W6).drew.heap[w.heap.size]? = some (.cells #[.int .i64 0, .int .i64 0, .string ⟨#[]⟩, .string ⟨#[]⟩, .int .i64 0, .slice none 0 0, .int .i64 0, .int .i64 0, .int .i64 0, .int .i64 0, .int .i64 0, .int .i64 0, .int .i64 0, .int .i64 0, .int .i64 0, .int .i64 0, .int .i64 0, .int .i64 0, .int .i64 0] 44 (0, 0))) := HGR
    have HBZ : Hid (Below w.heap.size w (W6).drew) := Lib.hid (below_drew HBW.out)
    refine store_ready 7 (by kernel_rfl) (by kernel_rfl) (by kernel_rfl) 44 (.tmp 2) (.tmp 84) (by kernel_rfl) (by kernel_rfl) w.heap.size L.toArray (by kernel_rfl) (by kernel_rfl) 44 _ HGZ.out HIL2.out HOS.out HOL.out (fun j u hj => (setRow_cell_other (by omega)).trans (hSx j u hj)) (fun hSy => ?_)
    clear hSx
    have hSx := hSy
    clear hSy
    try simp only [Act.put, List.setIfInBounds_toArray]
    refine wpAnyH_take (i := 8) (oi := ⟨some 3, _, _, _, _, none⟩) (v := .bool false) rfl (by kernel_rfl) (by kernel_rfl) (by kernel_rfl) (fun _ _ _ h => h) (Or.inl ⟨by kernel_rfl, ?_⟩) hSx ?_
    · intro wx hSx2; clear hSx; go_simp
    try simp only [Act.put, List.setIfInBounds_toArray]
    refine wpAnyH_done (by kernel_rfl) ?_ _
    go_wp2
    refine bodyPost_ret (results_row2 rfl _ _ w.heap.size 44 L.toArray (0, 0) _ rfl (setRow_heap _ _ _ _ _ _ HGZ.out) Tryd.underlying44 rfl HIL2.out) rfl ?_
    exact ⟨⟨⟨1, op, nm, dt, 0, [], c0⟩, none, 0, Kp.nil _, noA, ⟨HL1.out, HL2.out, by simp⟩, .inr ⟨by rw [← HLL.out]; rfl, HP.out⟩⟩, below_setRow HBZ.out (Nat.le_refl _) _⟩
  have HPF : Hid (stepP ws = fin ⟨1, op, nm, dt, 0, [], c0⟩) := Lib.hid (by rw [HSP.out, hP0])
  clear hP0
  cases hm : mayB ⟨1, op, nm, dt, 0, [], c0⟩
  case false =>
    have HP : Hid (stepP ws = none) := Lib.hid (by rw [HPF.out, fin, hm]; rfl)
    have HCK : Hid (∀ w', Below W6.heap.size W6 w' → Calls Tryd.prog 28 #[.agg L.toArray] w' fun e w'' => e = .returned (.int .i64 1) ∧ Below w'.heap.size w' w'') := Lib.hid (fun w' hb => by
      have := check11 ⟨1, op, nm, dt, 0, [], c0⟩ none 0 w' (Kp.nil _) ⟨HL1.out, HL2.out, by simp⟩
      rw [hm, show (⟨1, op, nm, dt, 0, [], c0⟩ : St).A (.slice none ([] : List Bool).length 0) = L.toArray from congrArg List.toArray HLL.out] at this
      exact this)
    clear hm
    go_wp2_with (first
    | ((with_reducible refine wpList_store_to (op := ⟨none, _, _, _, _, _⟩) rfl 41 (.tmp 16) (.tmp 14) rfl (w.heap.size + 1) 1 (callA op nm dt) ?_ ?_ HTH.out (HCL.out op nm dt) (HCO.out op nm dt) HW6.out ?_); rfl; rfl))
    refine wp_region_held_drew (S := fun W => W.rangeAt (w.heap.size + 1) 0 L) (by kernel_rfl) HRL.out (fun hSx => ?_)
    refine wpAnyH_take (i := 0) (oi := ⟨some 84, _, _, _, _, none⟩) (v := .agg L.toArray) rfl (by kernel_rfl) (by kernel_rfl) (by kernel_rfl) (fun _ _ _ h => h) (yieldsIf_load_mid (by kernel_rfl) 44 (.tmp 4) rfl (w.heap.size + 1) 0 rfl L _ (fun W hW => hW) Tryd.underlying44 rfl HIL.out) hSx ?_
    try simp only [Act.put, List.setIfInBounds_toArray]
    refine wpAnyH_take (i := 1) (oi := ⟨some 85, _, _, _, _, none⟩) (v := .bool true) rfl (by kernel_rfl) (by kernel_rfl) (by kernel_rfl) (fun _ _ _ h => h) (Or.inl ⟨by kernel_rfl, ?_⟩) hSx ?_
    · intro wx hSx2; clear hSx; go_simp
    try simp only [Act.put, List.setIfInBounds_toArray]
    refine wpAnyH_take (i := 2) (oi := ⟨some 86, _, _, _, _, none⟩) (v := .bool true) rfl (by kernel_rfl) (by kernel_rfl) (by kernel_rfl) (fun _ _ _ h => h) (Or.inl ⟨by kernel_rfl, ?_⟩) hSx ?_
    · intro wx hSx2; clear hSx; go_simp
    try simp only [Act.put, List.setIfInBounds_toArray]
    refine wpAnyH_take (i := 3) (oi := ⟨some 87, _, _, _, _, some (2, true)⟩) (v := .agg L.toArray) rfl (by kernel_rfl) (by kernel_rfl) (by kernel_rfl) (fun _ _ _ h => h) (yieldsIf_load_mid (by kernel_rfl) 44 (.tmp 4) rfl (w.heap.size + 1) 0 rfl L _ (fun W hW => hW) Tryd.underlying44 rfl HIL.out) hSx ?_
    try simp only [Act.put, List.setIfInBounds_toArray]
    refine wpAnyH_ready (rs := [4]) (by kernel_rfl) (by simp) ?_
    refine AllReadyH.cons (o := ⟨some 88, _, _, _, _, some (2, true)⟩) rfl (fun KK hKK => ?_) AllReadyH.nil
    go_simp
    refine (HCK.out _ (bdrew (Below.refl _ _))).mono ?_
    rintro e wz ⟨rfl, hbz⟩
    have hSz : wz.rangeAt (w.heap.size + 1) 0 L := fun j u hj => (hbz.cell (p := ⟨(w.heap.size + 1), 0 + j, none⟩) HSLT.out).trans (hSx j u hj)
    refine hKK.out _ _ hSz (fun hSy => ?_)
    clear hKK hSx hSz
    have hSx := hSy
    clear hSy KK
    try simp only [Act.put, List.setIfInBounds_toArray, List.set_cons_zero, List.set_cons_succ]
    have HGZ : Hid (wz.heap[w.heap.size]? = some (.cells #[.int .i64 0, .int .i64 0, .string ⟨#[]⟩, .string ⟨#[]⟩, .int .i64 0, .slice none 0 0, .int .i64 0, .int .i64 0, .int .i64 0, .int .i64 0, .int .i64 0, .int .i64 0, .int .i64 0, .int .i64 0, .int .i64 0, .int .i64 0, .int .i64 0, .int .i64 0, .int .i64 0] 44 (0, 0))) := Lib.hid ((hbz.block w.heap.size HRLT.out).trans HGR.out)
    have HBZ : Hid (Below w.heap.size w wz) := Lib.hid ((below_drew HBW.out).trans (hbz.mono (below_drew HBW.out).size))
    refine wpAnyH_take (i := 5) (oi := ⟨some 89, _, _, _, _, some (2, true)⟩) (v := .bool false) rfl (by kernel_rfl) (by kernel_rfl) (by kernel_rfl) (fun _ _ _ h => h) (Or.inl ⟨by kernel_rfl, ?_⟩) hSx ?_
    · intro wx hSx2; clear hSx; go_simp
    try simp only [Act.put, List.setIfInBounds_toArray]
    refine wpAnyH_take (i := 6) (oi := ⟨some 90, _, _, _, _, none⟩) (v := .bool false) rfl (by kernel_rfl) (by kernel_rfl) (by kernel_rfl) (fun _ _ _ h => h) (Or.inl ⟨by kernel_rfl, ?_⟩) hSx ?_
    · intro wx hSx2; clear hSx; go_simp
    try simp only [Act.put, List.setIfInBounds_toArray]
    refine store_ready 7 (by kernel_rfl) (by kernel_rfl) (by kernel_rfl) 44 (.tmp 2) (.tmp 84) (by kernel_rfl) (by kernel_rfl) w.heap.size L.toArray (by kernel_rfl) (by kernel_rfl) 44 _ HGZ.out HIL2.out HOS.out HOL.out (fun j u hj => (setRow_cell_other (by omega)).trans (hSx j u hj)) (fun hSy => ?_)
    clear hSx
    have hSx := hSy
    clear hSy
    try simp only [Act.put, List.setIfInBounds_toArray]
    refine wpAnyH_take (i := 8) (oi := ⟨some 3, _, _, _, _, none⟩) (v := .bool false) rfl (by kernel_rfl) (by kernel_rfl) (by kernel_rfl) (fun _ _ _ h => h) (Or.inl ⟨by kernel_rfl, ?_⟩) hSx ?_
    · intro wx hSx2; clear hSx; go_simp
    try simp only [Act.put, List.setIfInBounds_toArray]
    refine wpAnyH_done (by kernel_rfl) ?_ _
    go_wp2
    refine bodyPost_ret (results_row2 rfl _ _ w.heap.size 44 L.toArray (0, 0) _ rfl (setRow_heap _ _ _ _ _ _ HGZ.out) Tryd.underlying44 rfl HIL2.out) rfl ?_
    exact ⟨⟨⟨1, op, nm, dt, 0, [], c0⟩, none, 0, Kp.nil _, noA, ⟨HL1.out, HL2.out, by simp⟩, .inr ⟨by rw [← HLL.out]; rfl, HP.out⟩⟩, below_setRow HBZ.out (Nat.le_refl _) _⟩
  case true =>
    have HP : Hid (stepP ws = some ⟨1, op, nm, dt, 0, [], c0⟩) := Lib.hid (by rw [HPF.out, fin, hm]; rfl)
    have HCK : Hid (∀ w', Below W6.heap.size W6 w' → Calls Tryd.prog 28 #[.agg L.toArray] w' fun e w'' => e = .returned (.int .i64 0) ∧ Below w'.heap.size w' w'') := Lib.hid (fun w' hb => by
      have := check11 ⟨1, op, nm, dt, 0, [], c0⟩ none 0 w' (Kp.nil _) ⟨HL1.out, HL2.out, by simp⟩
      rw [hm, show (⟨1, op, nm, dt, 0, [], c0⟩ : St).A (.slice none ([] : List Bool).length 0) = L.toArray from congrArg List.toArray HLL.out] at this
      exact this)
    clear hm
    go_wp2_with (first
    | ((with_reducible refine wpList_store_to (op := ⟨none, _, _, _, _, _⟩) rfl 41 (.tmp 16) (.tmp 14) rfl (w.heap.size + 1) 1 (callA op nm dt) ?_ ?_ HTH.out (HCL.out op nm dt) (HCO.out op nm dt) HW6.out ?_); rfl; rfl))
    refine wp_region_held_drew (S := fun W => W.rangeAt (w.heap.size + 1) 0 L) (by kernel_rfl) HRL.out (fun hSx => ?_)
    refine wpAnyH_take (i := 0) (oi := ⟨some 84, _, _, _, _, none⟩) (v := .agg L.toArray) rfl (by kernel_rfl) (by kernel_rfl) (by kernel_rfl) (fun _ _ _ h => h) (yieldsIf_load_mid (by kernel_rfl) 44 (.tmp 4) rfl (w.heap.size + 1) 0 rfl L _ (fun W hW => hW) Tryd.underlying44 rfl HIL.out) hSx ?_
    try simp only [Act.put, List.setIfInBounds_toArray]
    refine wpAnyH_take (i := 1) (oi := ⟨some 85, _, _, _, _, none⟩) (v := .bool true) rfl (by kernel_rfl) (by kernel_rfl) (by kernel_rfl) (fun _ _ _ h => h) (Or.inl ⟨by kernel_rfl, ?_⟩) hSx ?_
    · intro wx hSx2; clear hSx; go_simp
    try simp only [Act.put, List.setIfInBounds_toArray]
    refine wpAnyH_take (i := 2) (oi := ⟨some 86, _, _, _, _, none⟩) (v := .bool true) rfl (by kernel_rfl) (by kernel_rfl) (by kernel_rfl) (fun _ _ _ h => h) (Or.inl ⟨by kernel_rfl, ?_⟩) hSx ?_
    · intro wx hSx2; clear hSx; go_simp
    try simp only [Act.put, List.setIfInBounds_toArray]
    refine wpAnyH_take (i := 3) (oi := ⟨some 87, _, _, _, _, some (2, true)⟩) (v := .agg L.toArray) rfl (by kernel_rfl) (by kernel_rfl) (by kernel_rfl) (fun _ _ _ h => h) (yieldsIf_load_mid (by kernel_rfl) 44 (.tmp 4) rfl (w.heap.size + 1) 0 rfl L _ (fun W hW => hW) Tryd.underlying44 rfl HIL.out) hSx ?_
    try simp only [Act.put, List.setIfInBounds_toArray]
    refine wpAnyH_ready (rs := [4]) (by kernel_rfl) (by simp) ?_
    refine AllReadyH.cons (o := ⟨some 88, _, _, _, _, some (2, true)⟩) rfl (fun KK hKK => ?_) AllReadyH.nil
    go_simp
    refine (HCK.out _ (bdrew (Below.refl _ _))).mono ?_
    rintro e wz ⟨rfl, hbz⟩
    have hSz : wz.rangeAt (w.heap.size + 1) 0 L := fun j u hj => (hbz.cell (p := ⟨(w.heap.size + 1), 0 + j, none⟩) HSLT.out).trans (hSx j u hj)
    refine hKK.out _ _ hSz (fun hSy => ?_)
    clear hKK hSx hSz
    have hSx := hSy
    clear hSy KK
    try simp only [Act.put, List.setIfInBounds_toArray, List.set_cons_zero, List.set_cons_succ]
    have HGZ : Hid (wz.heap[w.heap.size]? = some (.cells #[.int .i64 0, .int .i64 0, .string ⟨#[]⟩, .string ⟨#[]⟩, .int .i64 0, .slice none 0 0, .int .i64 0, .int .i64 0, .int .i64 0, .int .i64 0, .int .i64 0, .int .i64 0, .int .i64 0, .int .i64 0, .int .i64 0, .int .i64 0, .int .i64 0, .int .i64 0, .int .i64 0] 44 (0, 0))) := Lib.hid ((hbz.block w.heap.size HRLT.out).trans HGR.out)
    have HBZ : Hid (Below w.heap.size w wz) := Lib.hid ((below_drew HBW.out).trans (hbz.mono (below_drew HBW.out).size))
    refine wpAnyH_take (i := 5) (oi := ⟨some 89, _, _, _, _, some (2, true)⟩) (v := .bool true) rfl (by kernel_rfl) (by kernel_rfl) (by kernel_rfl) (fun _ _ _ h => h) (Or.inl ⟨by kernel_rfl, ?_⟩) hSx ?_
    · intro wx hSx2; clear hSx; go_simp
    try simp only [Act.put, List.setIfInBounds_toArray]
    refine wpAnyH_take (i := 6) (oi := ⟨some 90, _, _, _, _, none⟩) (v := .bool true) rfl (by kernel_rfl) (by kernel_rfl) (by kernel_rfl) (fun _ _ _ h => h) (Or.inl ⟨by kernel_rfl, ?_⟩) hSx ?_
    · intro wx hSx2; clear hSx; go_simp
    try simp only [Act.put, List.setIfInBounds_toArray]
    refine store_ready 7 (by kernel_rfl) (by kernel_rfl) (by kernel_rfl) 44 (.tmp 2) (.tmp 84) (by kernel_rfl) (by kernel_rfl) w.heap.size L.toArray (by kernel_rfl) (by kernel_rfl) 44 _ HGZ.out HIL2.out HOS.out HOL.out (fun j u hj => (setRow_cell_other (by omega)).trans (hSx j u hj)) (fun hSy => ?_)
    clear hSx
    have hSx := hSy
    clear hSy
    try simp only [Act.put, List.setIfInBounds_toArray]
    refine wpAnyH_take (i := 8) (oi := ⟨some 3, _, _, _, _, none⟩) (v := .bool true) rfl (by kernel_rfl) (by kernel_rfl) (by kernel_rfl) (fun _ _ _ h => h) (Or.inl ⟨by kernel_rfl, ?_⟩) hSx ?_
    · intro wx hSx2; clear hSx; go_simp
    try simp only [Act.put, List.setIfInBounds_toArray]
    refine wpAnyH_done (by kernel_rfl) ?_ _
    go_wp2
    refine bodyPost_ret (results_row2 rfl _ _ w.heap.size 44 L.toArray (0, 0) _ rfl (setRow_heap _ _ _ _ _ _ HGZ.out) Tryd.underlying44 rfl HIL2.out) rfl ?_
    exact ⟨⟨⟨1, op, nm, dt, 0, [], c0⟩, none, 0, Kp.nil _, noA, ⟨HL1.out, HL2.out, by simp⟩, .inl ⟨by rw [← HLL.out]; rfl, HP.out⟩⟩, below_setRow HBZ.out (Nat.le_refl _) _⟩
end Go.Proofs.YtjakkmioofbcaaaDoor
