/- The walk over ModelRuns. -/
import Derived.Test.YtadagidjppgbkaaW6
import Derived.Deep.DeepCutAuto
namespace Go.Proofs.Ytadagidjppgbkaa
open Go.RowKit Go.Maps Go.Sort
set_option maxHeartbeats 1000000 in
theorem alike23 {w : World} {base1 base2 n : Nat} {v1 v2 : Value} {ks : List (List UInt8)} (h1 : w.ownsRow base1 9 1 v1 n (ks.map encStr)) (h2 : w.ownsRow base2 9 1 v2 n (ks.map encStr)) (hn : n ≤ 1000000) (e : Int) (da : ByteArray) :
    Calls Try.prog 23 #[replyV e da v1, replyV e da v2] w fun e w' => e = .returned (.bool true) ∧ Below w.heap.size w w' := by
  have hS : Hid (∀ W, Below w.heap.size w W → Calls Try.prog 37 #[v1, v2] W fun e w' => e = .returned (.bool true) ∧ Below w.heap.size w w') := fun W hb =>
    (equal37 (row_below h1 hb) (row_below h2 hb) hn).mono fun e w' ⟨he, hb2⟩ => ⟨he, hb.trans (hb2.mono hb.size)⟩
  have HB0 : Hid (Below w.heap.size w ((w.alloc (.cells #[.int .i64 e, .string da, v1] 39)).alloc (.cells #[.int .i64 e, .string da, v2] 39))) := ((Below.refl _ _).alloc (Nat.le_refl _) _).alloc (by simp) _
  obtain ⟨A1, c1, rfl⟩ := own_slice h1
  obtain ⟨A2, c2, rfl⟩ := own_slice h2
  clear h1 h2
  have t1 : (e == e) = true := by simp
  unfold replyV
  go_enter Try.func23, Try.ntmps23
  go_wp2_with (go_at_call 37; refine (hS.out _ HB0.out).mono ?_; rintro e w' ⟨rfl, hb⟩)
  go_ret
  exact ⟨rfl, hb⟩
theorem below_of_drew {B : Nat} {w w' : World} (h : Below B w.drew w') : Below B w w' := ⟨h.os, h.tape, h.output, h.size, h.block⟩
theorem Cls.take {w : World} {B n : Nat} {A : Option Addr} {ls : List CallT} (h : Cls w B A n ls) {N : Nat} (hN : N ≤ n) : Cls w B A N (ls.take N) :=
  ⟨by rw [List.length_take, h.1]; omega, fun x hx => h.2.1 x (List.mem_of_mem_take hx), fun h0 => by
    obtain ⟨b, o, e, hl, hc⟩ := h.2.2 (by omega)
    refine ⟨b, o, e, hl, fun i x hi => hc i x ?_⟩
    have hin := (List.getElem?_eq_some_iff.1 hi).1
    rw [List.length_take] at hin
    rwa [List.getElem?_take_of_lt (by omega)] at hi⟩
theorem own_slice' {w : World} {base n e size : Nat} {v : Value} {xs : List Value} (h : w.ownsRow base e size v n xs) : ∃ A c, v = .slice A n c := by
  rcases h.2 with ⟨hv, h0⟩ | ⟨g, cap, cur, hv, _⟩
  · subst h0; exact ⟨_, _, hv⟩
  · exact ⟨_, _, hv⟩
theorem Nms.oth1 {w w' : World} {g b : Nat} {A : Option Addr} {n : Nat} {L : List Named} (h : Nms w g b A n L) (hs : w.heap.size ≤ w'.heap.size) (p : Nat) (hp : 0 < n → ∀ a, A = some a → a.block ≠ p) (ho : ∀ k, k ≠ p → w'.heap[k]? = w.heap[k]?) : Nms w' g b A n L :=
  ⟨h.1, h.2.1, fun hn => by
    obtain ⟨r, o, e, hl, h1, h2, hc⟩ := h.2.2 hn
    have hb := ho r (hp hn _ e)
    exact ⟨r, o, e, Nat.lt_of_lt_of_le hl hs, h1, h2, fun i x hi => ⟨(World.cell?_of_block (a := ⟨r, o + i * 2, none⟩) hb).trans (hc i x hi).1, (World.cell?_of_block (a := ⟨r, o + i * 2 + 1, none⟩) hb).trans (hc i x hi).2⟩⟩⟩
theorem Blk.alloc {w : World} {k : Nat} {x : Array Value} {t : TypeId} (h : Blk w k x t) (o : Obj) : Blk (w.alloc o) k x t := h.below ((Below.refl _ _).alloc (Nat.le_refl _) _)
theorem Blk.new (w : World) (x : Array Value) (t : TypeId) : Blk (w.alloc (.cells x t)) w.heap.size x t := heap_alloc_new _ _
theorem Blk.new' {w : World} {k : Nat} {x : Array Value} {t : TypeId} (h : w.heap.size = k) : Blk (w.alloc (.cells x t)) k x t := by subst h; exact heap_alloc_new _ _
theorem Blk.new1 (w : World) (o : Obj) (x : Array Value) (t : TypeId) : Blk ((w.alloc o).alloc (.cells x t)) (w.heap.size + 1) x t := by
  have := heap_alloc_new (w.alloc o) (.cells x t)
  rw [World.size_alloc] at this
  exact this
theorem Blk.set {w : World} {k : Nat} {x : Array Value} {t : TypeId} (h : Blk w k x t) (j : Nat) (v : Value) : Blk (w.setCell ⟨k, j, none⟩ v) k (x.setIfInBounds j v) t := heap_setCell_same w k j _ t v h
theorem Blk.setO {w : World} {k : Nat} {x : Array Value} {t : TypeId} (h : Blk w k x t) (X j : Nat) (v : Value) (hk : k ≠ X) : Blk (w.setCell ⟨X, j, none⟩ v) k x t := (heap_setCell_other w ⟨X, j, none⟩ k v hk).trans h
theorem Blk.set4 {w : World} {k : Nat} {t : TypeId} (h : Blk w k zeroRm t) (v0 v1 v2 v3 : Value) : Blk ((((w.setCell ⟨k, 0, none⟩ v0).setCell ⟨k, 1, none⟩ v1).setCell ⟨k, 2, none⟩ v2).setCell ⟨k, 3, none⟩ v3) k #[v0, v1, v2, v3] t := (((h.set 0 v0).set 1 v1).set 2 v2).set 3 v3
theorem Blk.set3 {w : World} {k : Nat} {t : TypeId} (h : Blk w k zeroReply t) (v0 v1 v2 : Value) : Blk (((w.setCell ⟨k, 0, none⟩ v0).setCell ⟨k, 1, none⟩ v1).setCell ⟨k, 2, none⟩ v2) k #[v0, v1, v2] t := ((h.set 0 v0).set 1 v1).set 2 v2
theorem Blk.rm {w : World} {k : Nat} {t : TypeId} (h : Blk w k zeroRm t) : (w.cell? ⟨k, 0, none⟩ = some (.slice none 0 0) ∧ w.cell? ⟨k, 1, none⟩ = some (.bool false) ∧ w.cell? ⟨k, 2, none⟩ = some (.string ByteArray.empty) ∧ w.cell? ⟨k, 3, none⟩ = some (.string ByteArray.empty)) ∧ (w.frozen? ⟨k, 0, none⟩ = false ∧ w.frozen? ⟨k, 1, none⟩ = false ∧ w.frozen? ⟨k, 2, none⟩ = false ∧ w.frozen? ⟨k, 3, none⟩ = false) :=
  ⟨⟨cell_of_row w k 0 _ t (0, 0) h, cell_of_row w k 1 _ t (0, 0) h, cell_of_row w k 2 _ t (0, 0) h, cell_of_row w k 3 _ t (0, 0) h⟩, frozen_of_row w k 0 _ t h, frozen_of_row w k 1 _ t h, frozen_of_row w k 2 _ t h, frozen_of_row w k 3 _ t h⟩
theorem Blk.reply {w : World} {k : Nat} {t : TypeId} (h : Blk w k zeroReply t) : (w.cell? ⟨k, 0, none⟩ = some (.int .i64 0) ∧ w.cell? ⟨k, 1, none⟩ = some (.string ByteArray.empty) ∧ w.cell? ⟨k, 2, none⟩ = some (.slice none 0 0)) ∧ (w.frozen? ⟨k, 0, none⟩ = false ∧ w.frozen? ⟨k, 1, none⟩ = false ∧ w.frozen? ⟨k, 2, none⟩ = false) :=
  ⟨⟨cell_of_row w k 0 _ t (0, 0) h, cell_of_row w k 1 _ t (0, 0) h, cell_of_row w k 2 _ t (0, 0) h⟩, frozen_of_row w k 0 _ t h, frozen_of_row w k 1 _ t h, frozen_of_row w k 2 _ t h⟩
/-- behind the reference's Do, its model and its reply not yet stored -/
structure Ret (w w1 : World) (g b : Nat) (s : Md) (r r2 : Rm) (A : Option Addr) (c : Nat) (ks : List (List UInt8)) (A3 : Option Addr) (c3 : Nat) (A5 : Option Addr) (c5 : Nat) (W : World) : Prop where
  st : St w g b w1.heap.size s r A c W
  bw : Below w1.heap.size w1 W
  nms : Nms W g w1.heap.size A3 r2.L.length r2.L
  cap : r2.L.length ≤ c3
  nil : A3 = none → c3 = 0
  max : c3 ≤ 9223372036854775807
  row : W.ownsRow (w1.heap.size + 1) 9 1 (.slice A5 ks.length c5) ks.length (ks.map encStr)
section
variable {w w1 W W' : World} {g b : Nat} {s : Md} {r r2 : Rm} {A A3 A5 : Option Addr} {c c3 c5 : Nat} {ks : List (List UInt8)}
theorem Ret.below (h : Ret w w1 g b s r r2 A c ks A3 c3 A5 c5 W) (hb : Below W.heap.size W W') : Ret w w1 g b s r r2 A c ks A3 c3 A5 c5 W' :=
  ⟨h.st.below hb, h.bw.trans (hb.mono h.bw.size), h.nms.below hb, h.cap, h.nil, h.max, row_below h.row hb⟩
theorem Ret.alloc (h : Ret w w1 g b s r r2 A c ks A3 c3 A5 c5 W) (o : Obj) : Ret w w1 g b s r r2 A c ks A3 c3 A5 c5 (W.alloc o) := h.below ((Below.refl _ _).alloc (Nat.le_refl _) _)
/-- a store into a block of the region's own -/
theorem Ret.set (h : Ret w w1 g b s r r2 A c ks A3 c3 A5 c5 W) (X j : Nat) (v : Value) (hX : w1.heap.size < X) (h3 : 0 < r2.L.length → ∀ a, A3 = some a → a.block ≠ X) (h5 : ∀ a, A5 = some a → a.block ≠ X) (hA : 0 < r.L.length → ∀ a, A = some a → a.block ≠ X) (hgb : g < w1.heap.size ∧ b < w1.heap.size) (hw : w.heap.size ≤ w1.heap.size) :
    Ret w w1 g b s r r2 A c ks A3 c3 A5 c5 (W.setCell ⟨X, j, none⟩ v) := by
  have ho : ∀ k, k ≠ X → (W.setCell ⟨X, j, none⟩ v).heap[k]? = W.heap[k]? := fun k hk => heap_setCell_other W ⟨X, j, none⟩ k v hk
  have hsz : (W.setCell ⟨X, j, none⟩ v).heap.size = W.heap.size := by simp
  refine ⟨⟨⟨⟨(ho g (by omega)).trans h.st.aw.1.1, ownsMap_block h.st.aw.1.2 (ho b (by omega))⟩, h.st.aw.2.1.setCell (by show w.heap.size ≤ X; omega) _, h.st.aw.2.2⟩, (ho _ (by omega)).trans h.st.box, ?_, h.st.cap, h.st.nil, h.st.max, h.st.low, h.st.ne⟩, h.bw.setCell (by show w1.heap.size ≤ X; omega) _, ?_, h.cap, h.nil, h.max, ?_⟩
  · exact h.st.nms.oth1 (Nat.le_of_eq hsz.symm) X hA ho
  · exact h.nms.oth1 (Nat.le_of_eq hsz.symm) X h3 ho
  · rcases h.row.2 with h2 | ⟨q, cc, cur, hv, hbr, hh, hrest⟩
    · exact ⟨h.row.1, .inl h2⟩
    · refine ⟨h.row.1, .inr ⟨q, cc, cur, hv, hbr, (ho q ?_).trans hh, hrest⟩⟩
      injection hv with hv
      exact h5 _ hv
/-- the loop's state, told of a world -/
structure SSt (w w1 : World) (g b : Nat) (s : Md) (r : Rm) (A : Option Addr) (c : Nat) (W : World) : Prop where
  st : St w g b w1.heap.size s r A c W
  bw : Below w1.heap.size w1 W
theorem SSt.alloc {w w1 W : World} {g b : Nat} {s : Md} {r : Rm} {A : Option Addr} {c : Nat} (h : SSt w w1 g b s r A c W) (o : Obj) : SSt w w1 g b s r A c (W.alloc o) := ⟨h.st.below ((Below.refl _ _).alloc (Nat.le_refl _) _), h.bw.alloc h.bw.size _⟩
theorem SSt.lay {w w1 W W' : World} {g b : Nat} {s : Md} {r : Rm} {A : Option Addr} {c : Nat} (h : SSt w w1 g b s r A c W) (e : W = W' := by rfl) : SSt w w1 g b s r A c W' := e ▸ h
theorem SSt.below {w w1 W W' : World} {g b : Nat} {s : Md} {r : Rm} {A : Option Addr} {c : Nat} (h : SSt w w1 g b s r A c W) (hb : Below W.heap.size W W') : SSt w w1 g b s r A c W' := ⟨h.st.below hb, h.bw.trans (hb.mono h.bw.size)⟩
theorem SSt.set {w w1 W : World} {g b : Nat} {s : Md} {r : Rm} {A : Option Addr} {c : Nat} (h : SSt w w1 g b s r A c W) (X j : Nat) (v : Value) (hX : w1.heap.size < X) (hA : 0 < r.L.length → ∀ a, A = some a → a.block ≠ X) (hgb : g < w1.heap.size ∧ b < w1.heap.size) (hw : w.heap.size ≤ w1.heap.size) : SSt w w1 g b s r A c (W.setCell ⟨X, j, none⟩ v) := by
  have ho : ∀ k, k ≠ X → (W.setCell ⟨X, j, none⟩ v).heap[k]? = W.heap[k]? := fun k hk => heap_setCell_other W ⟨X, j, none⟩ k v hk
  have hsz : (W.setCell ⟨X, j, none⟩ v).heap.size = W.heap.size := by simp
  exact ⟨⟨⟨⟨(ho g (by omega)).trans h.st.aw.1.1, ownsMap_block h.st.aw.1.2 (ho b (by omega))⟩, h.st.aw.2.1.setCell (by show w.heap.size ≤ X; omega) _, h.st.aw.2.2⟩, (ho _ (by omega)).trans h.st.box, h.st.nms.oth1 (Nat.le_of_eq hsz.symm) X hA ho, h.st.cap, h.st.nil, h.st.max, h.st.low, h.st.ne⟩, h.bw.setCell (by show w1.heap.size ≤ X; omega) _⟩
def CutR (w w1 : World) (g b : Nat) (s : Md) (r r2 : Rm) (A : Option Addr) (c : Nat) (E : Int) (D : ByteArray) (ks : List (List UInt8)) (s7 s8 : Value) (W : World) : Prop :=
  ∃ X7 X8 A3 c3 A5 c5, s7 = .pointer (some ⟨X7, 0, none⟩) ∧ s8 = .pointer (some ⟨X8, 0, none⟩) ∧ Ret w w1 g b s r r2 A c ks A3 c3 A5 c5 W ∧ w1.heap.size < X7 ∧ w1.heap.size < X8 ∧
    Blk W X7 #[.slice A3 r2.L.length c3, .bool r2.op, .string r2.nm, .string r2.by_] 27 ∧ Blk W X8 #[.int .i64 E, .string D, .slice A5 ks.length c5] 39
end
set_option maxRecDepth 100000 in
set_option maxHeartbeats 8000000 in
theorem modelRuns (A0 : Option Addr) (n c0 : Nat) (cs : List CallT) (w : World) (hl : Cls w w.heap.size A0 n cs) (hnc : n ≤ c0) (hcc : c0 ≤ 9223372036854775807) :
    Calls Try.prog 5 #[.slice A0 n c0] w (LawPost w) := by
  obtain ⟨N, hmin, hNn, hN40⟩ : ∃ N : Nat, min (n : Int) 40 = (N : Int) ∧ N ≤ n ∧ N ≤ 40 := ⟨min n 40, by omega, by omega, by omega⟩
  have hl2 := hl.take hNn
  generalize cs.take N = ds at hl2
  have HL := Lib.hid hl2
  have HRUN := Lib.hid (run22 A0 N c0 ds w hl2 (by omega) (by omega))
  clear hl hl2
  have s1 : (N : Int) ≤ (c0 : Int) := by omega
  go_enter Try.func5, Try.ntmps5
  go_wp2_with fail
  refine Calls.mono HRUN.out ?_
  rintro e w1 ⟨v1, g, b, s, l, B, rfl, hll, haw1, hsim1, hall, hrow1, hreps, hB, hgB, hbB, hsn⟩
  obtain ⟨A1, c1, rfl⟩ := own_slice' hrow1
  have HLL := Lib.hid hll
  have HSIM1 := Lib.hid hsim1
  have HALL := Lib.hid hall
  have HROW1 := Lib.hid hrow1
  have HREPS := Lib.hid hreps
  have HAW1 := Lib.hid haw1
  have HS0 : Hid (St w g b w1.heap.size s rm0 none 0 (w1.alloc (.cells #[.slice none 0 0, .bool false, .string ByteArray.empty, .string ByteArray.empty] 27))) := by
    have hlt := haw1.1.lt
    have hb := (Below.refl w1.heap.size w1).alloc (Nat.le_refl _) (.cells #[.slice none 0 0, .bool false, .string ByteArray.empty, .string ByteArray.empty] 27)
    exact ⟨haw1.turn (haw1.1.below hb) (Turn.of_below hb), heap_alloc_new _ _, ⟨rfl, fun x hx => by simp [rm0] at hx, fun h => by simp [rm0] at h⟩, by simp [rm0], fun _ => rfl, by omega, haw1.2.1.size, by omega, by omega⟩
  have HLT := Lib.hid haw1.1.lt
  clear hll hsim1 hall hrow1 hreps haw1 hB hgB hbB hsn
  have t1 : (((N : Nat) : Int) != (N : Int)) = false := by simp
  go_wp2_with fail
  go_loopg [2, 6] N (fun gk rv i wr => rv = .bool false ∧ ∃ (k : Nat) (A : Option Addr) (c : Nat), k ≤ N ∧ gk = N - k ∧ i = .int .i64 k ∧ St w g b w1.heap.size s (runAt ds k) A c wr ∧ Below w1.heap.size w1 wr)
  case atStart => exact ⟨rfl, 0, _, _, Nat.zero_le _, rfl, rfl, HS0.out, (Below.refl _ _).alloc (Nat.le_refl _) _⟩
  case round =>
    obtain ⟨rfl, k, A, c, hk, hgk, rfl, hst, hbw⟩ := hrel
    have HK := Lib.hid hgk
    have HST := Lib.hid hst
    have HBW := Lib.hid hbw
    clear hgk hst hbw
    obtain ⟨⟨p0, p1, p2, p3⟩, ⟨f0, f1, f2, f3⟩⟩ := HST.out.cells
    by_cases hlt : k < N
    · obtain ⟨x, hx⟩ : ∃ x, ds[k]? = some x := ⟨ds[k]'(by rw [HL.out.1]; exact hlt), by simp⟩
      obtain ⟨z1, z2⟩ := HL.out.2.1 x (List.mem_of_getElem? hx)
      obtain ⟨bb, o, rfl, hbb, hcc2⟩ := (HL.out.below HST.out.base).2.2 (by omega)
      obtain ⟨a0, a1, a2⟩ := hcc2 k x hx
      obtain ⟨y, hy⟩ : ∃ y, l[k]? = some y := ⟨l[k]'(by rw [HLL.out]; exact hlt), by simp⟩
      obtain ⟨hyr, cc, hc1, hya⟩ := HREPS.out k y hy
      rw [hx] at hc1
      injection hc1 with hc1
      subst hc1
      obtain ⟨sk, hsk⟩ := HALL.out k hk
      have hnext := runAt_succ hx
      obtain ⟨q0, q1, q2⟩ := repsL_get l k y hy
      obtain ⟨og, hA1⟩ : ∃ og, A1 = some ⟨og, 0, none⟩ := by
        rcases HROW1.out.2 with ⟨_, h0⟩ | ⟨og, cap, cur, hv, _⟩
        · omega
        · injection hv with hv; exact ⟨og, hv⟩
      subst hA1
      have hcell : ∀ j u, (repsL l)[j]? = some u → wr.cell? ⟨og, j, none⟩ = some u := fun j u hu => by
        have := HROW1.out.cells (g := og) rfl j u hu
        rw [Addr.add_mid, Nat.zero_add] at this
        rw [HBW.out.cell (p := ⟨og, j, none⟩) (World.block_lt_of_cell? _ _ this)]
        exact this
      have d0 := hcell _ _ q0
      have d1 := hcell _ _ q1
      have d2 := hcell _ _ q2
      have HOGL : Hid (og < w1.heap.size) := by
        have := HROW1.out.cells (g := og) rfl _ _ q0
        rw [Addr.add_mid] at this
        exact World.block_lt_of_cell? _ _ this
      have HYR := Lib.hid hyr
      have HR : Hid (∀ (W : World), St w g b w1.heap.size s (runAt ds k) A c W → Calls Try.prog 12 #[.agg (rmA A c (runAt ds k)), .agg #[.int .i64 x.op, .string x.nm, .string x.da]] W (RdPost g w1.heap.size A (runAt ds k).L (runAt ds (k + 1)) y.a.E y.a.D y.a.ks W)) := fun W h => by
        rw [hnext, hya]
        exact refDo_all (runAt ds k) h.nms (by have := hsk.len; omega) h.cap h.nil h.max h.aw.1.lt.1 h.lt hsk.nsz hsk.bsz x.op x.nm x.da z2
      have HKS : Hid (y.a.ks.length ≤ 1000000) := by
        show _ ≤ _
        rw [hya]; exact ans_len hsk.len _ _ _
      clear hcc2 hx hy hyr hya hsk hnext q0 q1 q2 hcell z1 z2
      obtain ⟨op, nm, da⟩ := x
      obtain ⟨⟨E, D, ks⟩, v⟩ := y
      generalize hr2 : runAt ds (k + 1) = r2 at *
      have HR2 := Lib.hid hr2
      clear hr2
      generalize runAt ds k = r at *
      simp only at *
      obtain ⟨AV, cv, hv⟩ := own_slice HYR.out
      subst hv
      have s2 : (k : Int) < (N : Int) := by omega
      go_upto_region 9 with fail
      go_cut [7, 8] (fun s7 s8 wx => CutR w w1 g b s r r2 A c E D ks s7 s8 wx)
      case first =>
        have hwr := HST.out.lt
        have HSA : Hid (∀ W, SSt w w1 g b s r A c W → SSt w w1 g b s r A c W ∧ W.cell? ⟨w1.heap.size, 0, none⟩ = some (.slice A r.L.length c) ∧ W.cell? ⟨w1.heap.size, 1, none⟩ = some (.bool r.op) ∧ W.cell? ⟨w1.heap.size, 2, none⟩ = some (.string r.nm) ∧ W.cell? ⟨w1.heap.size, 3, none⟩ = some (.string r.by_) ∧ W.cell? ⟨bb, o + k * 3, none⟩ = some (.int .i64 op) ∧ W.cell? ⟨bb, o + k * 3 + 1, none⟩ = some (.string nm) ∧ W.cell? ⟨bb, o + k * 3 + 2, none⟩ = some (.string da)) := fun W h => by
          obtain ⟨⟨u0, u1, u2, u3⟩, _⟩ := h.st.cells
          have e : ∀ j, W.cell? ⟨bb, j, none⟩ = wr.cell? ⟨bb, j, none⟩ := fun j => (h.st.base.cell (p := ⟨bb, j, none⟩) hbb).trans (HST.out.base.cell (p := ⟨bb, j, none⟩) hbb).symm
          exact ⟨h, u0, u1, u2, u3, (e _).trans a0, (e _).trans a1, (e _).trans a2⟩
        have HS0 : Hid (SSt w w1 g b s r A c wr.drew) := ⟨HST.out.drew, below_drew HBW.out⟩
        have KW0 : Hid (SSt w w1 g b s r A c (wr.drew)) := HS0.out
        have KW1 : Hid (SSt w w1 g b s r A c ((wr.alloc (.cells #[.slice none 0 0, .bool false, .string ⟨#[]⟩, .string ⟨#[]⟩] 27)).drew)) := SSt.lay (HS0.out.alloc _)
        have KW2 : Hid (SSt w w1 g b s r A c ((wr.alloc (.cells #[.int .i64 0, .string ⟨#[]⟩, .slice none 0 0] 39)).drew)) := SSt.lay (HS0.out.alloc _)
        have KW3 : Hid (SSt w w1 g b s r A c (((wr.alloc (.cells #[.slice none 0 0, .bool false, .string ⟨#[]⟩, .string ⟨#[]⟩] 27)).alloc (.cells #[.int .i64 0, .string ⟨#[]⟩, .slice none 0 0] 39)).drew)) := SSt.lay ((HS0.out.alloc _).alloc _)
        have KW4 : Hid (SSt w w1 g b s r A c (((wr.alloc (.cells #[.int .i64 0, .string ⟨#[]⟩, .slice none 0 0] 39)).alloc (.cells #[.slice none 0 0, .bool false, .string ⟨#[]⟩, .string ⟨#[]⟩] 27)).drew)) := SSt.lay ((HS0.out.alloc _).alloc _)
        have HRL : Hid (∀ (W : World), St w g b w1.heap.size s r A c W → Calls Try.prog 12 #[.agg #[.slice A r.L.length c, .bool r.op, .string r.nm, .string r.by_], .agg #[.int .i64 op, .string nm, .string da]] W (RdPost g w1.heap.size A r.L r2 E D ks W)) := HR.out
        have HAX : Hid (∀ X, wr.heap.size ≤ X → 0 < r.L.length → ∀ a, A = some a → a.block ≠ X) := fun X hX hn a ha e => by
          obtain ⟨rr, oo, e1, hl, _⟩ := HST.out.nms.2.2 hn
          rw [e1] at ha
          injection ha with ha
          subst ha
          simp only at e
          omega
        have HGB : Hid ((g < w1.heap.size ∧ b < w1.heap.size) ∧ w.heap.size ≤ w1.heap.size) := ⟨HLT.out, HAW1.out.2.1.size⟩
        go_region_held3 (fun w' => SSt w w1 g b s r A c w' ∧ w'.cell? ⟨w1.heap.size, 0, none⟩ = some (.slice A r.L.length c) ∧ w'.cell? ⟨w1.heap.size, 1, none⟩ = some (.bool r.op) ∧ w'.cell? ⟨w1.heap.size, 2, none⟩ = some (.string r.nm) ∧ w'.cell? ⟨w1.heap.size, 3, none⟩ = some (.string r.by_) ∧ w'.cell? ⟨bb, o + k * 3, none⟩ = some (.int .i64 op) ∧ w'.cell? ⟨bb, o + k * 3 + 1, none⟩ = some (.string nm) ∧ w'.cell? ⟨bb, o + k * 3 + 2, none⟩ = some (.string da))
          (first | (refine HSA.out _ ?_; (repeat' (first | with_reducible exact HS1.out | with_reducible exact KW0.out | with_reducible exact KW1.out | with_reducible exact KW2.out | with_reducible exact KW3.out | with_reducible exact KW4.out | (with_reducible refine SSt.alloc ?_ _) | (refine SSt.set ?_ _ _ _ (by omega) (HAX.out _ (by omega)) HGB.out.1 HGB.out.2)))))
          (first
            | (go_at_call 12; (with_reducible refine Calls.mono (HRL.out _ KW0.out.st) ?_); rintro e w3 ⟨A3, cp3, v3, rfl, hN3, hc3, hA3, hx3, hrow3, hfr3, hb3⟩
               obtain ⟨AV3, cv3, rfl, hfv3⟩ := own_some hrow3
               have HB3 := Lib.hid hb3
               have HS1 := Lib.hid ((HS0.out).below hb3)
               have HX3 : Hid (Ret w w1 g b s r r2 A c ks A3 cp3 AV3 cv3 w3) := ⟨HS1.out.st, HS1.out.bw, hN3, hc3, hA3, hx3, row_lower hrow3 (by simp; omega)⟩
               have HF3 : Hid ((∀ X, wr.heap.size ≤ X → X < wr.heap.size → 0 < r2.L.length → ∀ a, A3 = some a → a.block ≠ X) ∧ ∀ X, wr.heap.size ≤ X → X < wr.heap.size → ∀ a, AV3 = some a → a.block ≠ X) := by
                 refine ⟨fun X h1 h2 hn a ha e => ?_, fun X h1 h2 a ha e => ?_⟩
                 · rcases hfr3 with ⟨ea, el⟩ | hf
                   · exact HAX.out X h1 (by rw [← el]; exact hn) a (by rw [← ea]; exact ha) e
                   · have := hf a ha; simp at this; omega
                 · have := (hfv3 a ha).2; simp at this; omega
               clear hN3 hc3 hA3 hx3 hrow3 hfr3 hb3 hfv3
               simp only [rmA, replyV])
            | (go_at_call 12; (with_reducible refine Calls.mono (HRL.out _ KW1.out.st) ?_); rintro e w3 ⟨A3, cp3, v3, rfl, hN3, hc3, hA3, hx3, hrow3, hfr3, hb3⟩
               obtain ⟨AV3, cv3, rfl, hfv3⟩ := own_some hrow3
               have HB3 := Lib.hid hb3
               have HS1 := Lib.hid ((HS0.out.alloc (.cells zeroRm 27)).below hb3)
               have HB7 : Hid (Blk w3 (wr.heap.size) zeroRm 27) := Blk.below (Blk.new wr.drew zeroRm 27) hb3
               obtain ⟨⟨hb70, hb71, hb72, hb73⟩, hb74, hb75, hb76, hb77⟩ := HB7.out.rm
               have hl3 : wr.heap.size < w3.heap.size := by have := hb3.size; simp at this; omega
               have hn3 : ¬ wr.heap.size = w3.heap.size := by omega
               have ra0 := fun o => (HB7.out.alloc o).rm.1.1
               have ra1 := fun o => (HB7.out.alloc o).rm.1.2.1
               have ra2 := fun o => (HB7.out.alloc o).rm.1.2.2.1
               have ra3 := fun o => (HB7.out.alloc o).rm.1.2.2.2
               have rf0 := fun o => (HB7.out.alloc o).rm.2.1
               have rf1 := fun o => (HB7.out.alloc o).rm.2.2.1
               have rf2 := fun o => (HB7.out.alloc o).rm.2.2.2.1
               have rf3 := fun o => (HB7.out.alloc o).rm.2.2.2.2
               have HX3 : Hid (Ret w w1 g b s r r2 A c ks A3 cp3 AV3 cv3 w3) := ⟨HS1.out.st, HS1.out.bw, hN3, hc3, hA3, hx3, row_lower hrow3 (by simp; omega)⟩
               have HF3 : Hid ((∀ X, wr.heap.size ≤ X → X < wr.heap.size + 1 → 0 < r2.L.length → ∀ a, A3 = some a → a.block ≠ X) ∧ ∀ X, wr.heap.size ≤ X → X < wr.heap.size + 1 → ∀ a, AV3 = some a → a.block ≠ X) := by
                 refine ⟨fun X h1 h2 hn a ha e => ?_, fun X h1 h2 a ha e => ?_⟩
                 · rcases hfr3 with ⟨ea, el⟩ | hf
                   · exact HAX.out X h1 (by rw [← el]; exact hn) a (by rw [← ea]; exact ha) e
                   · have := hf a ha; simp at this; omega
                 · have := (hfv3 a ha).2; simp at this; omega
               clear hN3 hc3 hA3 hx3 hrow3 hfr3 hb3 hfv3
               simp only [rmA, replyV])
            | (go_at_call 12; (with_reducible refine Calls.mono (HRL.out _ KW2.out.st) ?_); rintro e w3 ⟨A3, cp3, v3, rfl, hN3, hc3, hA3, hx3, hrow3, hfr3, hb3⟩
               obtain ⟨AV3, cv3, rfl, hfv3⟩ := own_some hrow3
               have HB3 := Lib.hid hb3
               have HS1 := Lib.hid ((HS0.out.alloc (.cells zeroReply 39)).below hb3)
               have HB8 : Hid (Blk w3 (wr.heap.size) zeroReply 39) := Blk.below (Blk.new wr.drew zeroReply 39) hb3
               obtain ⟨⟨hb80, hb81, hb82⟩, hb84, hb85, hb86⟩ := HB8.out.reply
               have hl3 : wr.heap.size < w3.heap.size := by have := hb3.size; simp at this; omega
               have hn3 : ¬ wr.heap.size = w3.heap.size := by omega
               have pa0 := fun o => (HB8.out.alloc o).reply.1.1
               have pa1 := fun o => (HB8.out.alloc o).reply.1.2.1
               have pa2 := fun o => (HB8.out.alloc o).reply.1.2.2
               have pf0 := fun o => (HB8.out.alloc o).reply.2.1
               have pf1 := fun o => (HB8.out.alloc o).reply.2.2.1
               have pf2 := fun o => (HB8.out.alloc o).reply.2.2.2
               have HX3 : Hid (Ret w w1 g b s r r2 A c ks A3 cp3 AV3 cv3 w3) := ⟨HS1.out.st, HS1.out.bw, hN3, hc3, hA3, hx3, row_lower hrow3 (by simp; omega)⟩
               have HF3 : Hid ((∀ X, wr.heap.size ≤ X → X < wr.heap.size + 1 → 0 < r2.L.length → ∀ a, A3 = some a → a.block ≠ X) ∧ ∀ X, wr.heap.size ≤ X → X < wr.heap.size + 1 → ∀ a, AV3 = some a → a.block ≠ X) := by
                 refine ⟨fun X h1 h2 hn a ha e => ?_, fun X h1 h2 a ha e => ?_⟩
                 · rcases hfr3 with ⟨ea, el⟩ | hf
                   · exact HAX.out X h1 (by rw [← el]; exact hn) a (by rw [← ea]; exact ha) e
                   · have := hf a ha; simp at this; omega
                 · have := (hfv3 a ha).2; simp at this; omega
               clear hN3 hc3 hA3 hx3 hrow3 hfr3 hb3 hfv3
               simp only [rmA, replyV])
            | (go_at_call 12; (with_reducible refine Calls.mono (HRL.out _ KW3.out.st) ?_); rintro e w3 ⟨A3, cp3, v3, rfl, hN3, hc3, hA3, hx3, hrow3, hfr3, hb3⟩
               obtain ⟨AV3, cv3, rfl, hfv3⟩ := own_some hrow3
               have HB3 := Lib.hid hb3
               have HS1 := Lib.hid (((HS0.out.alloc (.cells zeroRm 27)).alloc (.cells zeroReply 39)).below hb3)
               have HB7 : Hid (Blk w3 (wr.heap.size) zeroRm 27) := Blk.below ((Blk.new wr.drew zeroRm 27).alloc (.cells zeroReply 39)) hb3
               obtain ⟨⟨hb70, hb71, hb72, hb73⟩, hb74, hb75, hb76, hb77⟩ := HB7.out.rm
               have HB8 : Hid (Blk w3 (wr.heap.size + 1) zeroReply 39) := Blk.below (Blk.new1 wr.drew (.cells zeroRm 27) zeroReply 39) hb3
               obtain ⟨⟨hb80, hb81, hb82⟩, hb84, hb85, hb86⟩ := HB8.out.reply
               have HX3 : Hid (Ret w w1 g b s r r2 A c ks A3 cp3 AV3 cv3 w3) := ⟨HS1.out.st, HS1.out.bw, hN3, hc3, hA3, hx3, row_lower hrow3 (by simp; omega)⟩
               have HF3 : Hid ((∀ X, wr.heap.size ≤ X → X < wr.heap.size + 1 + 1 → 0 < r2.L.length → ∀ a, A3 = some a → a.block ≠ X) ∧ ∀ X, wr.heap.size ≤ X → X < wr.heap.size + 1 + 1 → ∀ a, AV3 = some a → a.block ≠ X) := by
                 refine ⟨fun X h1 h2 hn a ha e => ?_, fun X h1 h2 a ha e => ?_⟩
                 · rcases hfr3 with ⟨ea, el⟩ | hf
                   · exact HAX.out X h1 (by rw [← el]; exact hn) a (by rw [← ea]; exact ha) e
                   · have := hf a ha; simp at this; omega
                 · have := (hfv3 a ha).2; simp at this; omega
               clear hN3 hc3 hA3 hx3 hrow3 hfr3 hb3 hfv3
               simp only [rmA, replyV])
            | (go_at_call 12; (with_reducible refine Calls.mono (HRL.out _ KW4.out.st) ?_); rintro e w3 ⟨A3, cp3, v3, rfl, hN3, hc3, hA3, hx3, hrow3, hfr3, hb3⟩
               obtain ⟨AV3, cv3, rfl, hfv3⟩ := own_some hrow3
               have HB3 := Lib.hid hb3
               have HS1 := Lib.hid (((HS0.out.alloc (.cells zeroReply 39)).alloc (.cells zeroRm 27)).below hb3)
               have HB8 : Hid (Blk w3 (wr.heap.size) zeroReply 39) := Blk.below ((Blk.new wr.drew zeroReply 39).alloc (.cells zeroRm 27)) hb3
               obtain ⟨⟨hb80, hb81, hb82⟩, hb84, hb85, hb86⟩ := HB8.out.reply
               have HB7 : Hid (Blk w3 (wr.heap.size + 1) zeroRm 27) := Blk.below (Blk.new1 wr.drew (.cells zeroReply 39) zeroRm 27) hb3
               obtain ⟨⟨hb70, hb71, hb72, hb73⟩, hb74, hb75, hb76, hb77⟩ := HB7.out.rm
               have HX3 : Hid (Ret w w1 g b s r r2 A c ks A3 cp3 AV3 cv3 w3) := ⟨HS1.out.st, HS1.out.bw, hN3, hc3, hA3, hx3, row_lower hrow3 (by simp; omega)⟩
               have HF3 : Hid ((∀ X, wr.heap.size ≤ X → X < wr.heap.size + 1 + 1 → 0 < r2.L.length → ∀ a, A3 = some a → a.block ≠ X) ∧ ∀ X, wr.heap.size ≤ X → X < wr.heap.size + 1 + 1 → ∀ a, AV3 = some a → a.block ≠ X) := by
                 refine ⟨fun X h1 h2 hn a ha e => ?_, fun X h1 h2 a ha e => ?_⟩
                 · rcases hfr3 with ⟨ea, el⟩ | hf
                   · exact HAX.out X h1 (by rw [← el]; exact hn) a (by rw [← ea]; exact ha) e
                   · have := hf a ha; simp at this; omega
                 · have := (hfv3 a ha).2; simp at this; omega
               clear hN3 hc3 hA3 hx3 hrow3 hfr3 hb3 hfv3
               simp only [rmA, replyV])
            | fail)
        all_goals
          go_wp2_with fail
          go_meet
          have hw3 : w1.heap.size < w3.heap.size := HS1.out.st.lt
          have hw4 : wr.heap.size ≤ w3.heap.size := by have := HB3.out.size; simp at this; omega
          have HRS := fun W X j v h1 h2 (h : Ret w w1 g b s r r2 A c ks A3 cp3 AV3 cv3 W) => Ret.set h X j v (Nat.lt_of_lt_of_le hwr h1) (HF3.out.1 X h1 h2) (HF3.out.2 X h1 h2) (HAX.out X h1) HGB.out.1 HGB.out.2
          refine ⟨_, _, A3, cp3, AV3, cv3, rfl, rfl, ?_, ?_, ?_, ?_, ?_⟩
          · repeat' (first | with_reducible exact HX3.out | (with_reducible refine Ret.alloc ?_ _) | (with_reducible refine HRS _ _ _ _ ?_ ?_ ?_) | omega)
          · omega
          · omega
          · repeat' (first | (with_reducible refine Blk.new' ?_; simp; done) | with_reducible exact Blk.set4 HB7.out _ _ _ _ | (with_reducible refine Blk.alloc ?_ _) | (with_reducible refine Blk.set4 ?_ _ _ _ _) | with_reducible exact HB7.out | (with_reducible refine Blk.setO ?_ _ _ _ ?_) | omega)
          · repeat' (first | (with_reducible refine Blk.new' ?_; simp; done) | with_reducible exact Blk.set3 HB8.out _ _ _ | (with_reducible refine Blk.alloc ?_ _) | (with_reducible refine Blk.set3 ?_ _ _ _) | with_reducible exact HB8.out | (with_reducible refine Blk.setO ?_ _ _ _ ?_) | omega)
      case rest =>
        obtain ⟨X7, X8, A3, c3, A5, c5, rfl, rfl, hret, hx7, hx8, hb7, hb8⟩ := hcut
        have HRET := Lib.hid hret
        have HB8 := Lib.hid hb8
        obtain ⟨⟨q0, q1, q2, q3⟩, ⟨j0, j1, j2, j3⟩⟩ := hret.st.cells
        have m0 := cell_of_row wc X7 0 _ 27 (0, 0) hb7
        have m1 := cell_of_row wc X7 1 _ 27 (0, 0) hb7
        have m2 := cell_of_row wc X7 2 _ 27 (0, 0) hb7
        have m3 := cell_of_row wc X7 3 _ 27 (0, 0) hb7
        have HPUT := Lib.hid (hret.st.put (r' := r2) (A' := A3) (c' := c3) hret.nms hret.cap hret.nil hret.max)
        have HOTH := Lib.hid (put4_oth wc w1.heap.size (.slice A3 r2.L.length c3) (.bool r2.op) (.string r2.nm) (.string r2.by_))
        clear hret hb7 hb8 a0 a1 a2 p0 p1 p2 p3 f0 f1 f2 f3
        go_wp2_with fail
        obtain ⟨W6, hW6⟩ : ∃ W6, W6 = (((wc.setCell ⟨w1.heap.size, 0, none⟩ (.slice A3 r2.L.length c3)).setCell ⟨w1.heap.size, 1, none⟩ (.bool r2.op)).setCell ⟨w1.heap.size, 2, none⟩ (.string r2.nm)).setCell ⟨w1.heap.size, 3, none⟩ (.string r2.by_) := ⟨_, rfl⟩
        have HBW6 : Hid (Below w1.heap.size w1 W6) := by
          show Below _ _ _
          rw [hW6]
          exact (((HRET.out.bw.setCell (Nat.le_refl _) _).setCell (Nat.le_refl _) _).setCell (Nat.le_refl _) _).setCell (Nat.le_refl _) _
        rw [← hW6] at HPUT HOTH ⊢
        have HB86 : Hid (Blk W6 X8 #[.int .i64 E, .string D, .slice A5 ks.length c5] 39) := (HOTH.out X8 (by omega)).trans HB8.out
        have HROW6 : Hid (W6.ownsRow (w1.heap.size + 1) 9 1 (.slice A5 ks.length c5) ks.length (ks.map encStr)) := row_oth HRET.out.row (fun q hq => HOTH.out q (by omega)) (Nat.le_refl _)
        clear hW6 q0 q1 q2 q3 j0 j1 j2 j3 m0 m1 m2 m3
        have HY6 : Hid (∀ W, Below w1.heap.size w1 W → (W.cell? ⟨og, k * 3, none⟩ = some (.int .i64 E) ∧ W.cell? ⟨og, k * 3 + 1, none⟩ = some (.string D) ∧ W.cell? ⟨og, k * 3 + 2, none⟩ = some (.slice AV ks.length cv))) := fun W hb => by
          have e : ∀ j, W.cell? ⟨og, j, none⟩ = wr.cell? ⟨og, j, none⟩ := fun j => (hb.cell (p := ⟨og, j, none⟩) HOGL.out).trans (HBW.out.cell (p := ⟨og, j, none⟩) HOGL.out).symm
          exact ⟨(e _).trans d0, (e _).trans d1, (e _).trans d2⟩
        have HYR6 : Hid (∀ W, Below w1.heap.size w1 W → W.ownsRow B 9 1 (.slice AV ks.length cv) ks.length (ks.map encStr)) := fun W hb => row_below HYR.out hb
        obtain ⟨y0, y1, y2⟩ := HY6.out W6 HBW6.out
        obtain ⟨x0, x1, x2⟩ := HB86.out.c3
        clear d0 d1 d2
        have HA23 : Hid (∀ W, Below w1.heap.size w1 W → W.ownsRow (w1.heap.size + 1) 9 1 (.slice A5 ks.length c5) ks.length (ks.map encStr) → Calls Try.prog 23 #[.agg #[.int .i64 E, .string D, .slice AV ks.length cv], .agg #[.int .i64 E, .string D, .slice A5 ks.length c5]] W fun e w' => e = .returned (.bool true) ∧ Below W.heap.size W w') := fun W hb hr => alike23 (HYR6.out W hb) hr HKS.out E D
        have HA13 : Hid (∀ W, Below w1.heap.size w1 W → W.ownsRow (w1.heap.size + 1) 9 1 (.slice A5 ks.length c5) ks.length (ks.map encStr) → Calls Try.prog 13 #[.agg #[.int .i64 E, .string D, .slice AV ks.length cv], .agg #[.int .i64 E, .string D, .slice A5 ks.length c5]] W fun e w' => e = .returned (.bool true) ∧ Below W.heap.size W w') := fun W hb hr => alike13 (HYR6.out W hb) hr HKS.out E D
        have HC23 := Lib.hid (HA23.out W6.drew (below_drew HBW6.out) HROW6.out)
        go_wp2_with fail
        go_region_held3 (fun w' => w'.cell? ⟨og, k * 3, none⟩ = some (.int .i64 E) ∧ w'.cell? ⟨og, k * 3 + 1, none⟩ = some (.string D) ∧ w'.cell? ⟨og, k * 3 + 2, none⟩ = some (.slice AV ks.length cv) ∧ w'.cell? ⟨X8, 0, none⟩ = some (.int .i64 E) ∧ w'.cell? ⟨X8, 1, none⟩ = some (.string D) ∧ w'.cell? ⟨X8, 2, none⟩ = some (.slice A5 ks.length c5))
          (first | (refine ⟨?_, ?_, ?_, ?_, ?_, ?_⟩ <;> with_reducible assumption) | go_keep)
          (first
            | (go_at_call 23; (with_reducible refine Calls.mono HC23.out ?_); rintro e w8 ⟨rfl, hb8⟩
               have HPUT8 := Lib.hid (HPUT.out.drew.below hb8)
               have HBW8 : Hid (Below w1.heap.size w1 w8) := HBW6.out.trans (below_of_drew hb8 |>.mono HBW6.out.size)
               have HB88 : Hid (Blk w8 X8 #[.int .i64 E, .string D, .slice A5 ks.length c5] 39) := Blk.below (w := W6.drew) HB86.out hb8
               have HROW8 := Lib.hid (row_below (w := W6.drew) HROW6.out hb8)
               have HC13 := Lib.hid (HA13.out w8 HBW8.out HROW8.out)
               clear hb8
               obtain ⟨y0, y1, y2⟩ := HY6.out w8 HBW8.out
               obtain ⟨x0, x1, x2⟩ := HB88.out.c3)
            | (go_at_call 13; (with_reducible refine Calls.mono HC13.out ?_); rintro e w9 ⟨rfl, hb9⟩
               have HPUT9 := Lib.hid (HPUT8.out.below hb9)
               have HBW9 : Hid (Below w1.heap.size w1 w9) := HBW8.out.trans (hb9.mono HBW8.out.size)
               have HB89 := Lib.hid (HB88.out.below hb9)
               clear hb9
               obtain ⟨y0, y1, y2⟩ := HY6.out w9 HBW9.out
               obtain ⟨x0, x1, x2⟩ := HB89.out.c3))
        go_wp2_with fail
        go_roundg (N - (k + 1))
        case measure => rw [HK.out]; omega
        case rel => exact ⟨rfl, k + 1, _, _, by omega, rfl, by go_num, HR2.out ▸ HPUT9.out, HBW9.out⟩
    · obtain rfl : k = N := by omega
      have HSame := Lib.hid (same15 (A := A) (c := c) (r := runAt ds k) HST.out.aw.1 HSIM1.out (HST.out.nms.map HST.out.aw.1))
      simp only [rmA] at HSame
      go_wp2_with fail
      refine Calls.mono HSame.out ?_
      rintro e w9 ⟨rfl, hb9⟩
      have HS9 := Lib.hid (HST.out.below hb9)
      clear hb9
      go_wp2_with fail
      refine (awake18 _).mono ?_
      rintro e w13 ⟨rfl, hb13⟩
      go_wp2
      go_ret
      exact ⟨rfl, HS9.out.base.trans (hb13.mono HS9.out.base.size)⟩
end Go.Proofs.Ytadagidjppgbkaa
