/- open of 640 bytes 0. -/
import Derived.Test.YtocfhldmnbmapaaGreatDoorAK
import Derived.Deep.MidRow
namespace Go.Proofs.YtocfhldmnbmapaaGreatDoor
open Go.RowKit
theorem wp_calm {c : Code} {Q : Exit → Act → World → Prop} {a : Act} {w : World} (h : c.wp Tryz.prog (Exit.then (Q .normal) (fun _ _ _ => False)) a w) : c.wp Tryz.prog Q a w :=
  wp_mono h (fun e a w h => by cases e <;> first | exact h | exact h.elim)
def Raised (F : List PanicEntry → World → Prop) (A B : Value) (D : List Deferred) : Exit → Act → World → Prop
  | .panic ch, a, w => a.tmps[2]? = some A ∧ a.tmps[3]? = some B ∧ a.defers = D ∧ F ch w
  | _, _, _ => False
theorem wp_raises {c : Code} {Q : Exit → Act → World → Prop} {a : Act} {w : World} (F : List PanicEntry → World → Prop) (A B : Value) (D : List Deferred) (h : c.wp Tryz.prog (Raised F A B D) a w)
    (hq : ∀ ch a w, a.tmps[2]? = some A → a.tmps[3]? = some B → a.defers = D → F ch w → Q (.panic ch) a w) : c.wp Tryz.prog Q a w :=
  wp_mono h (fun e a w h => by cases e <;> first | exact hq _ _ _ h.1 h.2.1 h.2.2.1 h.2.2.2 | exact h.elim)
theorem Raised.put {F : List PanicEntry → World → Prop} {A B : Value} {D : List Deferred} {n : Nat} {v : Value} (h2 : n ≠ 2) (h3 : n ≠ 3) (c : List PanicEntry) (a : Act) (w : World) (h : Raised F A B D (.panic c) (a.put (some n) v) w) : Raised F A B D (.panic c) a w := by
  simpa [Raised, Act.put, Array.getElem?_setIfInBounds, h2, h3] using h
theorem there_of_row {W : World} {b n : Nat} {cs : Array Value} {t : TypeId} (h : W.heap[b]? = some (.cells cs t (0, 0))) (hn : n ≤ cs.size) : W.there b 0 n := fun j hj =>
  ⟨by rw [cell_of_row W b (0 + j) _ t (0, 0) h]; simp; omega, frozen_of_row W b _ _ t h⟩
theorem below_sets {B g : Nat} (hg : B ≤ g) {a : World} : ∀ (vs : List Value) (o : Nat) (w : World), Below B a w → Below B a (w.setCells g o vs)
  | [], _, _, h => h
  | v :: vs, o, w, h => below_sets hg vs (o + 1) (w.setCell ⟨g, o, none⟩ v) (h.setCell hg v)
theorem heap_sets (g : Nat) {i : Nat} (hne : i ≠ g) : ∀ (vs : List Value) (o : Nat) (w : World), (w.setCells g o vs).heap[i]? = w.heap[i]?
  | [], _, _ => rfl
  | v :: vs, o, w => (heap_sets g hne vs (o + 1) (w.setCell ⟨g, o, none⟩ v)).trans (Below.heap_setCell w ⟨g, o, none⟩ v i hne)
/-- what open holds -/
structure Op58 (w0 : World) (p q im : Nat) (W : World) : Prop where
  hp : W.heap[p]? = some (.cells #[.pointer (some ⟨im, 0, none⟩)] 116 (0, 0))
  hq : W.heap[q]? = some (.cells #[.int .i64 0] 22 (0, 0))
  ti : W.there im 0 15
  lt : im < W.heap.size
  ge : w0.heap.size ≤ p ∧ p < q ∧ q < im
  bl : Below w0.heap.size w0 W
theorem Op58.below {w0 : World} {p q im : Nat} {W W' : World} (h : Op58 w0 p q im W) (hb : Below W.heap.size W W') : Op58 w0 p q im W' :=
  ⟨(hb.block _ (lt_of_block h.hp)).trans h.hp, (hb.block _ (lt_of_block h.hq)).trans h.hq,
   fun j hj => ⟨by rw [hb.cell (p := ⟨im, 0 + j, none⟩) h.lt]; exact (h.ti j hj).1, by rw [hb.frozen (p := ⟨im, 0 + j, none⟩) h.lt]; exact (h.ti j hj).2⟩,
   Nat.lt_of_lt_of_le h.lt hb.size, h.ge, h.bl.trans (hb.mono h.bl.size)⟩
theorem Op58.sets {w0 : World} {p q im : Nat} {W : World} (h : Op58 w0 p q im W) (o : Nat) (vs : List Value) : Op58 w0 p q im (W.setCells im o vs) := by
  have g := h.ge
  exact ⟨(heap_sets im (by omega) vs o W).trans h.hp, (heap_sets im (by omega) vs o W).trans h.hq,
    World.there_setCells h.ti im o vs, Nat.lt_of_lt_of_le h.lt (below_sets (Nat.le_refl im) vs o W (Below.refl _ _)).size, g, below_sets (by omega) vs o W h.bl⟩
theorem Op58.cp {w0 : World} {p q im : Nat} {W : World} (h : Op58 w0 p q im W) : W.cell? ⟨p, 0, none⟩ = some (.pointer (some ⟨im, 0, none⟩)) := cell_of_row W p 0 _ 116 (0, 0) h.hp
theorem Op58.new (w : World) : Op58 w w.heap.size (w.heap.size + 1) (w.heap.size + 1 + 1) (((w.alloc (.cells #[.pointer (some ⟨w.heap.size + 1 + 1, 0, none⟩)] 116)).alloc (.cells #[.int .i64 0] 22)).alloc (.cells #[.pointer none, .int .u64 0, .int .i64 0, .int .i64 0, .int .i64 0, .int .i64 0, .slice none 0 0, .int .u32 0, .int .u32 0, .slice none 0 0, .slice none 0 0, .slice none 0 0, .slice none 0 0, .slice none 0 0, .slice none 0 0] 127)) ∧
    (((w.alloc (.cells #[.pointer (some ⟨w.heap.size + 1 + 1, 0, none⟩)] 116)).alloc (.cells #[.int .i64 0] 22)).alloc (.cells #[.pointer none, .int .u64 0, .int .i64 0, .int .i64 0, .int .i64 0, .int .i64 0, .slice none 0 0, .int .u32 0, .int .u32 0, .slice none 0 0, .slice none 0 0, .slice none 0 0, .slice none 0 0, .slice none 0 0, .slice none 0 0] 127)).heap[w.heap.size + 1 + 1]? = some (.cells #[.pointer none, .int .u64 0, .int .i64 0, .int .i64 0, .int .i64 0, .int .i64 0, .slice none 0 0, .int .u32 0, .int .u32 0, .slice none 0 0, .slice none 0 0, .slice none 0 0, .slice none 0 0, .slice none 0 0, .slice none 0 0] 127 (0, 0)) := by
  have h1 := heap_alloc_new w (.cells #[.pointer (some ⟨w.heap.size + 1 + 1, 0, none⟩)] 116)
  have b0 : Below w.heap.size w (w.alloc (.cells #[.pointer (some ⟨w.heap.size + 1 + 1, 0, none⟩)] 116)) := (Below.refl _ _).alloc (Nat.le_refl _) _
  have z1 := World.size_alloc w (.cells #[.pointer (some ⟨w.heap.size + 1 + 1, 0, none⟩)] 116)
  generalize w.alloc (.cells #[.pointer (some ⟨w.heap.size + 1 + 1, 0, none⟩)] 116) = A at *
  have h2 := heap_alloc_new A (.cells #[.int .i64 0] 22)
  have b1 : Below A.heap.size A (A.alloc (.cells #[.int .i64 0] 22)) := (Below.refl _ _).alloc (Nat.le_refl _) _
  have z2 := World.size_alloc A (.cells #[.int .i64 0] 22)
  generalize A.alloc (.cells #[.int .i64 0] 22) = B at *
  have h3 := heap_alloc_new B (.cells #[.pointer none, .int .u64 0, .int .i64 0, .int .i64 0, .int .i64 0, .int .i64 0, .slice none 0 0, .int .u32 0, .int .u32 0, .slice none 0 0, .slice none 0 0, .slice none 0 0, .slice none 0 0, .slice none 0 0, .slice none 0 0] 127)
  have b2 : Below B.heap.size B (B.alloc (.cells #[.pointer none, .int .u64 0, .int .i64 0, .int .i64 0, .int .i64 0, .int .i64 0, .slice none 0 0, .int .u32 0, .int .u32 0, .slice none 0 0, .slice none 0 0, .slice none 0 0, .slice none 0 0, .slice none 0 0, .slice none 0 0] 127)) := (Below.refl _ _).alloc (Nat.le_refl _) _
  have z3 := World.size_alloc B (.cells #[.pointer none, .int .u64 0, .int .i64 0, .int .i64 0, .int .i64 0, .int .i64 0, .slice none 0 0, .int .u32 0, .int .u32 0, .slice none 0 0, .slice none 0 0, .slice none 0 0, .slice none 0 0, .slice none 0 0, .slice none 0 0] 127)
  generalize B.alloc (.cells #[.pointer none, .int .u64 0, .int .i64 0, .int .i64 0, .int .i64 0, .int .i64 0, .slice none 0 0, .int .u32 0, .int .u32 0, .slice none 0 0, .slice none 0 0, .slice none 0 0, .slice none 0 0, .slice none 0 0, .slice none 0 0] 127) = C at *
  rw [z1] at h2
  rw [z2, z1] at h3
  exact ⟨⟨(b2.block _ (by omega)).trans ((b1.block _ (by omega)).trans h1), (b2.block _ (by omega)).trans h2, there_of_row h3 (by decide), by omega, ⟨Nat.le_refl _, by omega, by omega⟩,
    b0.trans ((b1.mono (by omega)).trans (b2.mono (by omega)))⟩, h3⟩
theorem DkZ.set {db mb N im : Nat} {W : World} {cs : Array Value} {r : Option Addr} (h : DkZ db mb N W) (hi : W.heap[im]? = some (.cells cs 127 (0, 0))) (h0 : cs[0]? = some (.pointer r)) (o : Nat) (v : Value) : DkZ db mb N (W.setCell ⟨im, o, none⟩ v) := by
  have n1 : db ≠ im := fun e => by have := h.hd; rw [e, hi] at this; simp at this
  have n2 : mb ≠ im := fun e => by obtain ⟨es, c, hh, -⟩ := h.mp; rw [e, hi] at hh; simp at hh
  have n3 : N ≠ im := fun e => by have := h.st 0 (by omega); rw [e, cell_of_row W im 0 _ 127 (0, 0) hi, h0] at this; simp at this
  refine ⟨(Below.heap_setCell W _ v db n1).trans h.hd, h.mp.setCell n2 v, fun i hi => (World.cell?_of_block (w := W) (Below.heap_setCell W _ v N n3)).trans (h.st i hi), ?_⟩
  exact Nat.lt_of_lt_of_le h.lt ((Below.refl 0 W).setCell (Nat.zero_le _) v).size
set_option maxRecDepth 100000 in
set_option maxHeartbeats 2000000 in
theorem open58 (w : World) : Calls Tryz.prog 58 #[.string (str (zs 640))] w fun e w' => e = .returned (.tuple #[.pointer none, .int .i64 1]) ∧ Below w.heap.size w w' := by
  have HL := Lib.hid load108
  have HR : Hid (∀ (db mb N : Nat) (W : World), DkZ db mb N W → ∀ i : Nat, i < 5 → Calls Tryz.prog 110 #[.pointer (some ⟨db, 0, none⟩), .int .i64 (i : Nat)] W fun e w' => e = .returned (.tuple #[.string (str (zs 128)), .int .i64 0]) ∧ w' = W) := Lib.hid (fun _ _ _ _ h i hi => read110 h i hi)
  have HPK := Lib.hid pick111
  have HN := Lib.hid halt_no
  have HY := Lib.hid halt_yes
  have HC := Lib.hid caught107
  have HI41 := Lib.hid info41
  have HO41 := Lib.hid sup_one
  have hmf : ∀ (fn : Fn) (first cap : Array Value) (w : World), (Instr.makeFunc fn first cap).run Tryz.prog w = .ok (.func fn first cap) w := fun _ _ _ _ => rfl
  generalize str (zs 640) = Z at *
  generalize str (zs 128) = Z1 at *
  go_enter_defers Tryz.func58, Tryz.ntmps58
  go_upto_region 3 with fail
  have HV := Lib.hid (Op58.new w).1
  have HIM := Lib.hid (Op58.new w).2
  clear hmf
  generalize ((w.alloc _).alloc _).alloc _ = V at *
  generalize w.heap.size + 1 + 1 = im at *
  generalize w.heap.size + 1 = q at *
  generalize hp : w.heap.size = p at HV ⊢
  clear hp
  go_wp2_with fail
  refine Calls.mono (HL.out V) ?_
  rintro _ W1 ⟨db, mb, N, rfl, hd, -, hb⟩
  have H1 := Lib.hid (HV.out.below hb)
  have HD2 : Hid (DkZ db mb N (W1.setCell ⟨im, 0, none⟩ (.pointer (some ⟨db, 0, none⟩)))) := Lib.hid (hd.set ((hb.block _ HV.out.lt).trans HIM.out) rfl 0 _)
  clear hd hb HV HIM
  go_upto_region 4 with fail
  go_wp2_with fail
  refine Calls.mono (HN.out _ _) ?_
  rintro _ y ⟨rfl, hy⟩
  rw [hy]
  clear hy y
  have cp := H1.out.cp
  obtain ⟨x, hx⟩ := Option.isSome_iff_exists.1 (H1.out.ti 0 (by omega)).1
  have hz := (H1.out.ti 0 (by omega)).2
  have H2 : Hid (Op58 w p q im (W1.setCell ⟨im, 0, none⟩ (.pointer (some ⟨db, 0, none⟩)))) := Lib.hid (H1.out.sets 0 [.pointer (some ⟨db, 0, none⟩)])
  go_upto_region 6 with fail
  generalize W1.setCell ⟨im, 0, none⟩ (.pointer (some ⟨db, 0, none⟩)) = W2 at *
  clear cp hx hz H1
  go_wp2_with fail
  refine Calls.mono (HR.out _ _ _ _ HD2.out 0 (by omega)) ?_
  rintro _ y ⟨rfl, hy⟩
  rw [hy]
  clear hy y
  go_upto_region 7 with fail
  go_wp2_with fail
  refine Calls.mono (HR.out _ _ _ _ HD2.out 1 (by omega)) ?_
  rintro _ y ⟨rfl, hy⟩
  rw [hy]
  clear hy y
  go_upto_region 8 with fail
  have cp := H2.out.cp
  refine wp_calm ?_
  refine wp_region_held_drew (S := fun W => W.cell? ⟨p, 0, none⟩ = some (.pointer (some ⟨im, 0, none⟩))) (by kernel_rfl) ?_ (fun hSx => ?_)
  · exact H2.out.cp
  refine wpAnyH_take (i := 0) (oi := ⟨some 36, _, _, _, _, none⟩) (v := ?_) rfl (by kernel_rfl) (by kernel_rfl) (by kernel_rfl) (fun _ _ _ h => h) (Or.inl ⟨by kernel_rfl, ?_⟩) hSx ?_
  rotate_left 1
  focus (intro wx hSw; have s0 := hSw; go_simp; first | done | with_reducible rfl)
  try simp only [Act.put, List.setIfInBounds_toArray, List.set_cons_zero, List.set_cons_succ]
  refine wpAnyH_take (i := 1) (oi := ⟨some 37, _, _, _, _, none⟩) (v := ?_) rfl (by kernel_rfl) (by kernel_rfl) (by kernel_rfl) (fun _ _ _ h => h) (Or.inl ⟨by kernel_rfl, ?_⟩) hSx ?_
  rotate_left 1
  focus (intro wx hSw; have s0 := hSw; go_simp; first | done | with_reducible rfl)
  try simp only [Act.put, List.setIfInBounds_toArray, List.set_cons_zero, List.set_cons_succ]
  refine wpAnyH_take (i := 2) (oi := ⟨some 38, _, _, _, _, none⟩) (v := ?_) rfl (by kernel_rfl) (by kernel_rfl) (by kernel_rfl) (fun _ _ _ h => h) (Or.inl ⟨by kernel_rfl, ?_⟩) hSx ?_
  rotate_left 1
  focus (intro wx hSw; have s0 := hSw; go_simp; first | done | with_reducible rfl)
  try simp only [Act.put, List.setIfInBounds_toArray, List.set_cons_zero, List.set_cons_succ]
  refine wpAnyH_ready (rs := [3]) (by kernel_rfl) (by simp) ?_
  refine AllReadyH.cons (o := ⟨some 39, _, _, _, _, none⟩) rfl (fun KK hKK => ?_) AllReadyH.nil
  go_simp
  refine Calls.mono (HPK.out _) ?_
  rintro e y ⟨rfl, hb⟩
  have H3 := Lib.hid (H2.out.below ((Below.drew (Below.refl _ _)).trans hb))
  clear hb
  refine hKK.out _ _ (H3.out.cp) (fun hSy => ?_)
  clear hKK hSx
  have hSx := hSy
  clear hSy KK
  try simp only [Act.put, List.setIfInBounds_toArray, List.set_cons_zero, List.set_cons_succ]
  refine wpAnyH_take (i := 4) (oi := ⟨some 35, _, _, _, _, none⟩) (v := ?_) rfl (by kernel_rfl) (by kernel_rfl) (by kernel_rfl) (fun _ _ _ h => h) (Or.inl ⟨by kernel_rfl, ?_⟩) hSx ?_
  rotate_left 1
  focus (intro wx hSw; have s0 := hSw; go_simp; first | done | with_reducible rfl)
  try simp only [Act.put, List.setIfInBounds_toArray, List.set_cons_zero, List.set_cons_succ]
  refine wpAnyH_take (i := 5) (oi := ⟨some 40, _, _, _, _, none⟩) (v := ?_) rfl (by kernel_rfl) (by kernel_rfl) (by kernel_rfl) (fun _ _ _ h => h) (Or.inl ⟨by kernel_rfl, ?_⟩) hSx ?_
  rotate_left 1
  focus (intro wx hSw; have s0 := hSw; go_simp; first | done | with_reducible rfl)
  try simp only [Act.put, List.setIfInBounds_toArray, List.set_cons_zero, List.set_cons_succ]
  refine wpAnyH_take (i := 6) (oi := ⟨some 41, _, _, _, _, none⟩) (v := ?_) rfl (by kernel_rfl) (by kernel_rfl) (by kernel_rfl) (fun _ _ _ h => h) (Or.inl ⟨by kernel_rfl, ?_⟩) hSx ?_
  rotate_left 1
  focus (intro wx hSw; have s0 := hSw; go_simp; first | done | with_reducible rfl)
  try simp only [Act.put, List.setIfInBounds_toArray, List.set_cons_zero, List.set_cons_succ]
  refine wpAnyH_take (i := 7) (oi := ⟨some 42, _, _, _, _, none⟩) (v := ?_) rfl (by kernel_rfl) (by kernel_rfl) (by kernel_rfl) (fun _ _ _ h => h) (Or.inl ⟨by kernel_rfl, ?_⟩) hSx ?_
  rotate_left 1
  focus (intro wx hSw; have s0 := hSw; go_simp; first | done | with_reducible rfl)
  try simp only [Act.put, List.setIfInBounds_toArray, List.set_cons_zero, List.set_cons_succ]
  refine wpAnyH_take (i := 8) (oi := ⟨some 43, _, _, _, _, none⟩) (v := ?_) rfl (by kernel_rfl) (by kernel_rfl) (by kernel_rfl) (fun _ _ _ h => h) (Or.inl ⟨by kernel_rfl, ?_⟩) hSx ?_
  rotate_left 1
  focus (intro wx hSw; have s0 := hSw; go_simp; first | done | with_reducible rfl)
  try simp only [Act.put, List.setIfInBounds_toArray, List.set_cons_zero, List.set_cons_succ]
  refine wpAnyH_ready (rs := [9]) (by kernel_rfl) (by simp) ?_
  refine AllReadyH.cons (o := ⟨none, _, _, _, _, none⟩) rfl (fun KK hKK => ?_) AllReadyH.nil
  refine wp_store_mid 41 (.tmp 43) (.tmp 40) rfl im 1 #[.int .u64 0, .int .i64 0, .int .i64 0, .int .i64 0, .int .i64 0, .slice none 0 0] rfl rfl (fun j hj => by have := H3.out.ti (1 + j) (by simp at hj; omega); simpa using this) HI41.out HO41.out ?_
  refine hKK.out _ _ ((H3.out.sets 1 _).cp) (fun hSy => ?_)
  clear hKK hSx
  have hSx := hSy
  clear hSy KK
  try simp only [Act.put]
  refine wpAnyH_take (i := 10) (oi := ⟨some 5, _, _, _, _, none⟩) (v := ?_) rfl (by kernel_rfl) (by kernel_rfl) (by kernel_rfl) (fun _ _ _ h => h) (Or.inl ⟨by kernel_rfl, ?_⟩) hSx ?_
  rotate_left 1
  focus (intro wx hSw; have s0 := hSw; go_simp; first | done | with_reducible rfl)
  try simp only [Act.put, List.setIfInBounds_toArray, List.set_cons_zero, List.set_cons_succ]
  refine wpAnyH_done (by kernel_rfl) ?_ _
  generalize hY3 : y.setCells im 1 _ = Y3
  have H4 : Hid (Op58 w p q im Y3) := Lib.hid (by rw [← hY3]; exact H3.out.sets 1 _)
  clear hY3 H3 H2 cp hSx
  go_upto_region 9 with fail
  refine wp_raises (fun ch W => ch = [{ v := stopV 1, recovered := false }] ∧ Op58 w p q im W) (.pointer (some ⟨p, 0, none⟩)) (.pointer (some ⟨q, 0, none⟩)) [{ target := .fn (.func 107) #[.pointer (some ⟨p, 0, none⟩), .pointer (some ⟨q, 0, none⟩)], args := #[] }] ?_ ?_
  · refine wp_region_held_drew (S := fun _ => True) (by kernel_rfl) trivial (fun hSx => ?_)
    refine wpAnyH_take (i := 0) (oi := ⟨some 44, _, _, _, _, none⟩) (v := ?_) rfl (by kernel_rfl) (by kernel_rfl) (by kernel_rfl) (fun c a w h => Raised.put (by decide) (by decide) c a w h) (Or.inl ⟨by kernel_rfl, ?_⟩) hSx ?_
    rotate_left 1
    focus (intro wx hSw; go_simp; first | done | with_reducible rfl)
    try simp only [Act.put, List.setIfInBounds_toArray, List.set_cons_zero, List.set_cons_succ]
    refine wpAnyH_take (i := 1) (oi := ⟨some 45, _, _, _, _, none⟩) (v := ?_) rfl (by kernel_rfl) (by kernel_rfl) (by kernel_rfl) (fun c a w h => Raised.put (by decide) (by decide) c a w h) (Or.inl ⟨by kernel_rfl, ?_⟩) hSx ?_
    rotate_left 1
    focus (intro wx hSw; go_simp; first | done | with_reducible rfl)
    try simp only [Act.put, List.setIfInBounds_toArray, List.set_cons_zero, List.set_cons_succ]
    refine wpAnyH_take (i := 2) (oi := ⟨some 46, _, _, _, _, none⟩) (v := ?_) rfl (by kernel_rfl) (by kernel_rfl) (by kernel_rfl) (fun c a w h => Raised.put (by decide) (by decide) c a w h) (Or.inl ⟨by kernel_rfl, ?_⟩) hSx ?_
    rotate_left 1
    focus (intro wx hSw; go_simp; first | done | with_reducible rfl)
    try simp only [Act.put, List.setIfInBounds_toArray, List.set_cons_zero, List.set_cons_succ]
    refine wpAnyH_take (i := 3) (oi := ⟨some 47, _, _, _, _, some (2, false)⟩) (v := undef) rfl (by kernel_rfl) (by kernel_rfl) (by kernel_rfl) (fun c a w h => Raised.put (by decide) (by decide) c a w h) (Or.inr ⟨by kernel_rfl, rfl⟩) hSx ?_
    try simp only [Act.put, List.setIfInBounds_toArray, List.set_cons_zero, List.set_cons_succ]
    refine wpAnyH_take (i := 4) (oi := ⟨some 48, _, _, _, _, some (2, false)⟩) (v := undef) rfl (by kernel_rfl) (by kernel_rfl) (by kernel_rfl) (fun c a w h => Raised.put (by decide) (by decide) c a w h) (Or.inr ⟨by kernel_rfl, rfl⟩) hSx ?_
    try simp only [Act.put, List.setIfInBounds_toArray, List.set_cons_zero, List.set_cons_succ]
    refine wpAnyH_take (i := 5) (oi := ⟨some 49, _, _, _, _, some (2, false)⟩) (v := undef) rfl (by kernel_rfl) (by kernel_rfl) (by kernel_rfl) (fun c a w h => Raised.put (by decide) (by decide) c a w h) (Or.inr ⟨by kernel_rfl, rfl⟩) hSx ?_
    try simp only [Act.put, List.setIfInBounds_toArray, List.set_cons_zero, List.set_cons_succ]
    refine wpAnyH_take (i := 6) (oi := ⟨some 50, _, _, _, _, some (2, false)⟩) (v := undef) rfl (by kernel_rfl) (by kernel_rfl) (by kernel_rfl) (fun c a w h => Raised.put (by decide) (by decide) c a w h) (Or.inr ⟨by kernel_rfl, rfl⟩) hSx ?_
    try simp only [Act.put, List.setIfInBounds_toArray, List.set_cons_zero, List.set_cons_succ]
    refine wpAnyH_take (i := 7) (oi := ⟨some 51, _, _, _, _, some (2, false)⟩) (v := undef) rfl (by kernel_rfl) (by kernel_rfl) (by kernel_rfl) (fun c a w h => Raised.put (by decide) (by decide) c a w h) (Or.inr ⟨by kernel_rfl, rfl⟩) hSx ?_
    try simp only [Act.put, List.setIfInBounds_toArray, List.set_cons_zero, List.set_cons_succ]
    refine wpAnyH_take (i := 8) (oi := ⟨some 52, _, _, _, _, some (2, false)⟩) (v := undef) rfl (by kernel_rfl) (by kernel_rfl) (by kernel_rfl) (fun c a w h => Raised.put (by decide) (by decide) c a w h) (Or.inr ⟨by kernel_rfl, rfl⟩) hSx ?_
    try simp only [Act.put, List.setIfInBounds_toArray, List.set_cons_zero, List.set_cons_succ]
    refine wpAnyH_take (i := 9) (oi := ⟨some 53, _, _, _, _, some (2, false)⟩) (v := undef) rfl (by kernel_rfl) (by kernel_rfl) (by kernel_rfl) (fun c a w h => Raised.put (by decide) (by decide) c a w h) (Or.inr ⟨by kernel_rfl, rfl⟩) hSx ?_
    try simp only [Act.put, List.setIfInBounds_toArray, List.set_cons_zero, List.set_cons_succ]
    refine wpAnyH_take (i := 10) (oi := ⟨some 54, _, _, _, _, some (2, false)⟩) (v := undef) rfl (by kernel_rfl) (by kernel_rfl) (by kernel_rfl) (fun c a w h => Raised.put (by decide) (by decide) c a w h) (Or.inr ⟨by kernel_rfl, rfl⟩) hSx ?_
    try simp only [Act.put, List.setIfInBounds_toArray, List.set_cons_zero, List.set_cons_succ]
    refine wpAnyH_take (i := 11) (oi := ⟨some 55, _, _, _, _, none⟩) (v := ?_) rfl (by kernel_rfl) (by kernel_rfl) (by kernel_rfl) (fun c a w h => Raised.put (by decide) (by decide) c a w h) (Or.inl ⟨by kernel_rfl, ?_⟩) hSx ?_
    rotate_left 1
    focus (intro wx hSw; go_simp; first | done | with_reducible rfl)
    try simp only [Act.put, List.setIfInBounds_toArray, List.set_cons_zero, List.set_cons_succ]
    refine wpAnyH_ready (rs := [12]) (by kernel_rfl) (by simp) ?_
    refine AllReadyH.cons (o := ⟨some 56, _, _, _, _, none⟩) rfl (fun KK hKK => ?_) AllReadyH.nil
    go_simp
    refine Calls.mono (HY.out 1 _) ?_
    rintro e z ⟨rfl, hz⟩
    change _ ∧ _ ∧ _ ∧ _ ∧ _
    exact ⟨rfl, rfl, rfl, rfl, by rw [hz]; exact H4.out.below (Below.drew (Below.refl _ _))⟩
  · rintro ch a W h2 h3 hd ⟨rfl, h4⟩
    change Leaves Tryz.prog Tryz.f58 a.tmps _ a.defers (.panicking _) W
    rw [hd]
    refine leaves_cons (f := 107) (args := #[.pointer (some ⟨p, 0, none⟩), .pointer (some ⟨q, 0, none⟩)]) (by simp) (by simp [go_sem]) ?_
    have g := h4.ge
    refine (HC.out p q _ _ 1 W h4.hp h4.hq (by omega)).mono ?_
    rintro e u' w2 ⟨rfl, rfl, hcp, hcq, hB⟩
    change ∃ v, _ ∧ _
    refine ⟨.tuple #[.pointer none, .int .i64 1], ?_, rfl, h4.bl.trans (hB _ (by omega) (by omega))⟩
    simp [results, Tryz.results58, go_sem, h2, h3, hcp, hcq]
end Go.Proofs.YtocfhldmnbmapaaGreatDoor
