/- The walk over ModelDoes. -/
import Derived.Test.YtadagidjppgbkaaW3
namespace Go.Proofs.Ytadagidjppgbkaa
open Go.RowKit Go.Maps Go.Sort
theorem St.drew {w W : World} {g b R : Nat} {s : Md} {r : Rm} {A : Option Addr} {c : Nat} (h : St w g b R s r A c W) : St w g b R s r A c W.drew := h.below ⟨rfl, rfl, rfl, Nat.le_refl _, fun _ _ => rfl⟩
theorem row_turn {w w' : World} {base n g b : Nat} {v : Value} {xs : List Value} (h : w.ownsRow base 9 1 v n xs) (ht : Turn g b w w') (hg : g < base) (hb : b < base) : w'.ownsRow base 9 1 v n xs := by
  rcases h.2 with h2 | ⟨r, c, cur, hv, hbr, hh, hrest⟩
  · exact ⟨h.1, .inl h2⟩
  · exact ⟨h.1, .inr ⟨r, c, cur, hv, hbr, (ht.block r (Array.getElem?_eq_some_iff.1 hh).1 (by omega) (by omega)).trans hh, hrest⟩⟩
theorem ans_len {r : Rm} (h : r.L.length ≤ 256) (op : Int) (nm da : ByteArray) : (r.ans op nm da).ks.length ≤ 1000000 := by
  unfold Rm.ans
  repeat' split
  all_goals first | (simp [Ans.err]; done) | (simp [namesL]; omega)
theorem own_some {w : World} {base n : Nat} {v : Value} {xs : List Value} (h : w.ownsRow base 9 1 v n xs) : ∃ A c, v = .slice A n c ∧ ∀ a, A = some a → a.spot = none ∧ base ≤ a.block := by
  rcases h.2 with ⟨hv, h0⟩ | ⟨g, cap, cur, hv, hb, _⟩
  · subst h0; exact ⟨_, _, hv, fun a ha => by cases ha⟩
  · exact ⟨_, _, hv, fun a ha => by injection ha with ha; subst ha; exact ⟨rfl, hb⟩⟩
/-- block k holds these cells -/
def Blk (w : World) (k : Nat) (x : Array Value) (t : TypeId) : Prop := w.heap[k]? = some (.cells x t)
theorem Blk.below {w w' : World} {k : Nat} {x : Array Value} {t : TypeId} (h : Blk w k x t) (hb : Below w.heap.size w w') : Blk w' k x t := (hb.block k (Array.getElem?_eq_some_iff.1 h).1).trans h
theorem Blk.turn {w w' : World} {k g b : Nat} {x : Array Value} {t : TypeId} (h : Blk w k x t) (ht : Turn g b w w') (h1 : k ≠ g) (h2 : k ≠ b) : Blk w' k x t := ht.keeps h h1 h2
theorem Blk.oth {w w' : World} {k : Nat} {x : Array Value} {t : TypeId} (h : Blk w k x t) (hb : w'.heap[k]? = w.heap[k]?) : Blk w' k x t := hb.trans h
theorem Blk.c3 {w : World} {k : Nat} {x0 x1 x2 : Value} {t : TypeId} (h : Blk w k #[x0, x1, x2] t) : w.cell? ⟨k, 0, none⟩ = some x0 ∧ w.cell? ⟨k, 1, none⟩ = some x1 ∧ w.cell? ⟨k, 2, none⟩ = some x2 :=
  ⟨cell_of_row w k 0 _ t (0, 0) h, cell_of_row w k 1 _ t (0, 0) h, cell_of_row w k 2 _ t (0, 0) h⟩
theorem put4_oth (W : World) (R : Nat) (x0 x1 x2 x3 : Value) (k : Nat) (hk : k ≠ R) : ((((W.setCell ⟨R, 0, none⟩ x0).setCell ⟨R, 1, none⟩ x1).setCell ⟨R, 2, none⟩ x2).setCell ⟨R, 3, none⟩ x3).heap[k]? = W.heap[k]? := by
  rw [heap_setCell_other _ ⟨R, 3, none⟩ k _ hk, heap_setCell_other _ ⟨R, 2, none⟩ k _ hk, heap_setCell_other _ ⟨R, 1, none⟩ k _ hk, heap_setCell_other _ ⟨R, 0, none⟩ k _ hk]
set_option maxRecDepth 100000 in
set_option maxHeartbeats 8000000 in
theorem modelDoes (A0 : Option Addr) (n c0 : Nat) (ls : List ActT) (nm : ByteArray) (w : World) (hl : Acts w w.heap.size A0 n ls) (hnc : n ≤ c0) (hnm : nm.size ≤ maxLen) :
    Calls Try.prog 3 #[.slice A0 n c0, .string nm] w (LawPost w) := by
  have HL := Lib.hid hl
  clear hl
  go_enter Try.func3, Try.ntmps3
  go_wp2_with fail
  refine (new8 _).mono ?_
  rintro e w1 ⟨g, b, rfl, hb1, hg1, hb2, hm1⟩
  have HA1 : Hid (AwAt w g b st0 w1) := ⟨hm1, hb1, hg1, hb2⟩
  have HS0 : Hid (St w g b w1.heap.size st0 rm0 none 0 (w1.alloc (.cells #[.slice none 0 0, .bool false, .string ByteArray.empty, .string ByteArray.empty] 27))) := by
    have hlt := hm1.lt
    have hb := (Below.refl w1.heap.size w1).alloc (Nat.le_refl _) (.cells #[.slice none 0 0, .bool false, .string ByteArray.empty, .string ByteArray.empty] 27)
    exact ⟨HA1.out.turn (hm1.below hb) (Turn.of_below hb), heap_alloc_new _ _, ⟨rfl, fun x hx => by simp [rm0] at hx, fun h => by simp [rm0] at h⟩, by simp [rm0], fun _ => rfl, by omega, HA1.out.2.1.size, by omega, by omega⟩
  clear hm1 hb1 hg1 hb2
  go_wp2_with fail
  go_loopg [4, 7] n (fun gk rv i wr => rv = .bool false ∧ ∃ (k : Nat) (s : Md) (r : Rm) (A : Option Addr) (c : Nat), k ≤ n ∧ k ≤ 40 ∧ gk = n - k ∧ i = .int .i64 k ∧ St w g b w1.heap.size s r A c wr ∧ Sim s r ∧ s.n ≤ k)
  case atStart => exact ⟨rfl, 0, _, _, _, _, Nat.zero_le _, Nat.zero_le _, rfl, rfl, HS0.out, sim0, Nat.le_refl _⟩
  case round =>
    obtain ⟨rfl, k, s, r, A, c, hk, hk40, hgk, rfl, hst, hsim, hsn⟩ := hrel
    have HK := Lib.hid hgk
    have HST := Lib.hid hst
    have HSIM := Lib.hid hsim
    have HSN := Lib.hid hsn
    clear hgk hst hsim hsn
    by_cases hlt : k < n ∧ k < 40
    · obtain ⟨hlt, hlt40⟩ := hlt
      obtain ⟨x, hx⟩ : ∃ x, ls[k]? = some x := ⟨ls[k]'(by rw [HL.out.1]; exact hlt), by simp⟩
      obtain ⟨z1, z2, z3, z4⟩ := HL.out.2.1 x (List.mem_of_getElem? hx)
      obtain ⟨bb, o, rfl, hbb, hcc⟩ := (HL.out.below HST.out.base).2.2 (by omega)
      obtain ⟨a0, a1, a2, a3, a4⟩ := hcc k x hx
      clear hcc hx
      obtain ⟨⟨p0, p1, p2, p3⟩, ⟨f0, f1, f2, f3⟩⟩ := HST.out.cells
      have t3 : decide ((k : Int) < (n : Int)) = true := by simp; omega
      have t4 : decide ((k : Int) < 40) = true := by simp; omega
      obtain ⟨op, nmx, dax, tx, crx⟩ := x
      simp only at *
      cases crx
      · go_wp2_with fail
        refine Calls.mono (call11 op nmx dax tx false _ z2 z3 z4) ?_
        rintro e w2 ⟨da, rfl, hda, hb2⟩
        have HS2 := Lib.hid (HST.out.below hb2)
        clear hb2 p0 p1 p2 p3 f0 f1 f2 f3
        have HS3 := Lib.hid (HS2.out.below ((Below.refl _ _).alloc (Nat.le_refl _) (.cells #[.int .i64 op, .string nmx, .string da] 30)))
        obtain ⟨⟨p0, p1, p2, p3⟩, ⟨f0, f1, f2, f3⟩⟩ := HS3.out.cells
        have hD : Hid (∀ (W : World) (r2 : Rm) (A' : Option Addr) (c' : Nat), St w g b w1.heap.size s r2 A' c' W → Calls Try.prog 14 #[.pointer (some ⟨g, 0, none⟩), .agg #[.int .i64 op, .string nmx, .string da]] W (DoAll g b s.n (r.step op nmx da) (r.ans op nmx da) W)) := fun W r2 A' c' h => do_all h.aw.1 HSIM.out (by have := HSN.out; simp only [maxLen]; omega) op nmx da z1 hda
        have hR := refDo_all (w := w2.alloc (.cells #[.int .i64 op, .string nmx, .string da] 30)) r HS3.out.nms (by have := HSIM.out.len; omega) HS3.out.cap HS3.out.nil HS3.out.max HS3.out.aw.1.lt.1 HS3.out.lt HSIM.out.nsz HSIM.out.bsz op nmx da hda
        have HKS := Lib.hid (ans_len HSIM.out.len op nmx da)
        have HB8 : Hid (Blk (w2.alloc (.cells #[.int .i64 op, .string nmx, .string da] 30)) w2.heap.size #[.int .i64 op, .string nmx, .string da] 30) := heap_alloc_new _ _
        generalize r.step op nmx da = r2 at *
        generalize r.ans op nmx da = an at *
        obtain ⟨E, D, ks⟩ := an
        simp only at *
        have HRD := Lib.hid hR
        clear hR
        go_wp2_with fail
        refine Calls.mono HRD.out ?_
        rintro e w3 ⟨A3, cp3, v3, rfl, hN3, hc3, hA3, hx3, hrow3, _, hb3⟩
        obtain ⟨AV3, cv3, rfl, hfr3⟩ := own_some hrow3
        have HX3 := Lib.hid (And.intro hN3 (And.intro hc3 (And.intro hA3 hx3)))
        have HROW3 := Lib.hid hrow3
        have HFR3 := Lib.hid hfr3
        have HS4 := Lib.hid (HS3.out.below hb3)
        have HB84 := Lib.hid (HB8.out.below hb3)
        have hb5 : Below w3.heap.size w3 ((w3.alloc (.cells #[.slice A3 r2.L.length cp3, .bool r2.op, .string r2.nm, .string r2.by_] 27)).alloc (.cells #[.int .i64 E, .string D, .slice AV3 ks.length cv3] 39)) := new2 _ _ _
        have HS5 := Lib.hid (HS4.out.below hb5)
        have HB85 := Lib.hid (HB84.out.below hb5)
        have HB105 : Hid (Blk ((w3.alloc (.cells #[.slice A3 r2.L.length cp3, .bool r2.op, .string r2.nm, .string r2.by_] 27)).alloc (.cells #[.int .i64 E, .string D, .slice AV3 ks.length cv3] 39)) (w3.heap.size + 1) #[.int .i64 E, .string D, .slice AV3 ks.length cv3] 39) := by
          have := heap_alloc_new (w3.alloc (.cells #[.slice A3 r2.L.length cp3, .bool r2.op, .string r2.nm, .string r2.by_] 27)) (.cells #[.int .i64 E, .string D, .slice AV3 ks.length cv3] 39)
          rw [World.size_alloc] at this
          exact this
        have HROW5 := Lib.hid (row_below hrow3 hb5)
        have HS6 := Lib.hid (HS5.out.put (r' := r2) (A' := A3) (c' := cp3) (hN3.below hb5) hc3 hA3 hx3)
        have hlt5 : w1.heap.size < w2.heap.size := HS2.out.lt
        have hsz3 : w2.heap.size + 1 ≤ w3.heap.size := by have := hb3.size; simpa using this
        have HB86 := Lib.hid (HB85.out.oth (put4_oth _ w1.heap.size (.slice A3 r2.L.length cp3) (.bool r2.op) (.string r2.nm) (.string r2.by_) w2.heap.size (by omega)))
        have HB106 := Lib.hid (HB105.out.oth (put4_oth _ w1.heap.size (.slice A3 r2.L.length cp3) (.bool r2.op) (.string r2.nm) (.string r2.by_) (w3.heap.size + 1) (by omega)))
        have HROW6 : Hid (World.ownsRow (((((((w3.alloc (.cells #[.slice A3 r2.L.length cp3, .bool r2.op, .string r2.nm, .string r2.by_] 27)).alloc (.cells #[.int .i64 E, .string D, .slice AV3 ks.length cv3] 39)).setCell ⟨w1.heap.size, 0, none⟩ (.slice A3 r2.L.length cp3)).setCell ⟨w1.heap.size, 1, none⟩ (.bool r2.op)).setCell ⟨w1.heap.size, 2, none⟩ (.string r2.nm)).setCell ⟨w1.heap.size, 3, none⟩ (.string r2.by_))) (w2.heap.size + 1) 9 1 (.slice AV3 ks.length cv3) ks.length (ks.map encStr)) := by
          have := row_oth HROW5.out (fun k hk => put4_oth _ w1.heap.size (.slice A3 r2.L.length cp3) (.bool r2.op) (.string r2.nm) (.string r2.by_) k (by rw [World.size_alloc] at hk; omega)) (Nat.le_refl _)
          rw [World.size_alloc] at this
          exact this
        clear p0 p1 p2 p3 f0 f1 f2 f3
        obtain ⟨⟨p0, p1, p2, p3⟩, ⟨f0, f1, f2, f3⟩⟩ := HS5.out.cells
        simp only [rmA, replyV]
        go_wp2_with fail
        obtain ⟨W6, hW6⟩ : ∃ W6, W6 = (((((w3.alloc (.cells #[.slice A3 r2.L.length cp3, .bool r2.op, .string r2.nm, .string r2.by_] 27)).alloc (.cells #[.int .i64 E, .string D, .slice AV3 ks.length cv3] 39)).setCell ⟨w1.heap.size, 0, none⟩ (.slice A3 r2.L.length cp3)).setCell ⟨w1.heap.size, 1, none⟩ (.bool r2.op)).setCell ⟨w1.heap.size, 2, none⟩ (.string r2.nm)).setCell ⟨w1.heap.size, 3, none⟩ (.string r2.by_) := ⟨_, rfl⟩
        have HZ6 : Hid (W6.heap.size = w3.heap.size + 2) := by show _ = _; rw [hW6]; simp
        rw [← hW6] at HS6 HB86 HB106 HROW6 ⊢
        have hgl := HS2.out.aw.1.lt
        have HLT := Lib.hid (And.intro hlt5 (And.intro hsz3 hgl))
        clear hW6 p0 p1 p2 p3 f0 f1 f2 f3 hb5 hrow3 hfr3 hN3 hb3 hlt5 hsz3 hgl
        obtain ⟨x0, x1, x2⟩ := HB86.out.c3
        obtain ⟨y0, y1, y2⟩ := HB106.out.c3
        go_region_held3 (fun w' => w'.cell? ⟨w2.heap.size, 0, none⟩ = some (.int .i64 op) ∧ w'.cell? ⟨w2.heap.size, 1, none⟩ = some (.string nmx) ∧ w'.cell? ⟨w2.heap.size, 2, none⟩ = some (.string da) ∧ w'.cell? ⟨w3.heap.size + 1, 0, none⟩ = some (.int .i64 E) ∧ w'.cell? ⟨w3.heap.size + 1, 1, none⟩ = some (.string D) ∧ w'.cell? ⟨w3.heap.size + 1, 2, none⟩ = some (.slice AV3 ks.length cv3))
          (first | (refine ⟨?_, ?_, ?_, ?_, ?_, ?_⟩ <;> with_reducible assumption) | go_keep)
          (first
            | (go_at_call 14; refine Calls.mono (hD.out _ _ _ _ HS6.out.drew) ?_; rintro e w7 ⟨s7, v7, rfl, hrow7, hm7, ht7, hsim7, hn7⟩
               have HS7 := Lib.hid (HS6.out.drew.turn hm7 ht7)
               have HB87 := Lib.hid (Blk.turn (w := W6.drew) HB86.out ht7 (by have := HLT.out; omega) (by have := HLT.out; omega))
               have HB107 := Lib.hid (Blk.turn (w := W6.drew) HB106.out ht7 (by have := HLT.out; omega) (by have := HLT.out; omega))
               have hr37 := row_turn (w := W6.drew) HROW6.out ht7 (by have := HLT.out; omega) (by have := HLT.out; omega)
               have HSIM7 := Lib.hid hsim7
               have HN7 := Lib.hid hn7
               have HA := Lib.hid (alike13 hrow7 hr37 HKS.out E D)
               obtain ⟨A7, cv7, rfl⟩ := own_slice hrow7
               clear hrow7 hm7 ht7 hsim7 hn7 hr37
               obtain ⟨x0, x1, x2⟩ := HB87.out.c3
               obtain ⟨y0, y1, y2⟩ := HB107.out.c3
               unfold replyV)
            | (go_at_call 13; refine Calls.mono HA.out ?_; rintro e w8 ⟨rfl, hb8⟩
               have HS8 := Lib.hid (HS7.out.below hb8)
               have HB88 := Lib.hid (HB87.out.below hb8)
               have HB108 := Lib.hid (HB107.out.below hb8)
               clear hb8
               obtain ⟨x0, x1, x2⟩ := HB88.out.c3
               obtain ⟨y0, y1, y2⟩ := HB108.out.c3))
        obtain ⟨⟨p0, p1, p2, p3⟩, ⟨f0, f1, f2, f3⟩⟩ := HS8.out.cells
        go_wp2_with fail
        refine Calls.mono (same15 (A := A3) (c := cp3) (r := r2) HS8.out.aw.1 HSIM7.out (HS8.out.nms.map HS8.out.aw.1)) ?_
        rintro e w9 ⟨rfl, hb9⟩
        have HS9 := Lib.hid (HS8.out.below hb9)
        clear hb9
        go_wp2_with fail
        go_roundg (n - (k + 1))
        case measure => rw [HK.out]; omega
        case rel => exact ⟨rfl, k + 1, _, _, _, _, by omega, by omega, rfl, by go_num, HS9.out, HSIM7.out, Nat.le_trans HN7.out (Nat.succ_le_succ HSN.out)⟩
      · have HC := Lib.hid (crash_at HST.out.aw.1)
        go_wp2_with fail
        refine Calls.mono HC.out ?_
        rintro e w2 ⟨rfl, hm2, ht2⟩
        have HS2 := Lib.hid (HST.out.turn hm2 ht2)
        clear hm2 ht2 p0 p1 p2 p3 f0 f1 f2 f3
        obtain ⟨⟨p0, p1, p2, p3⟩, ⟨f0, f1, f2, f3⟩⟩ := HS2.out.cells
        go_wp2_with fail
        refine Calls.mono (refCrash (A := A) (c := c) r) ?_
        rintro e w3 ⟨rfl, hb3⟩
        have HS3 := Lib.hid (HS2.out.below hb3)
        clear hb3 p0 p1 p2 p3 f0 f1 f2 f3
        obtain ⟨⟨p0, p1, p2, p3⟩, ⟨f0, f1, f2, f3⟩⟩ := HS3.out.cells
        simp only [rmA, Rm.shut]
        go_wp2_with fail
        have HS4 := Lib.hid (HS3.out.put (r' := r.shut) HS3.out.nms HS3.out.cap HS3.out.nil HS3.out.max)
        refine Calls.mono (same15 (A := A) (c := c) (r := r.shut) HS4.out.aw.1 HSIM.out.shutS (HS4.out.nms.map HS4.out.aw.1)) ?_
        rintro e w5 ⟨rfl, hb5⟩
        have HS5 := Lib.hid (HS4.out.below hb5)
        clear hb5
        go_wp2_with fail
        go_roundg (n - (k + 1))
        case measure => rw [HK.out]; omega
        case rel => exact ⟨rfl, k + 1, _, _, _, _, by omega, by omega, rfl, by go_num, HS5.out, HSIM.out.shutS, Nat.le_succ_of_le HSN.out⟩
    · have hex : k = n ∨ (k = 40 ∧ decide ((40 : Int) < (n : Int)) = true) := by
        by_cases h1 : k < n
        · exact .inr ⟨by omega, by simp; omega⟩
        · exact .inl (by omega)
      have hB := bytes_at HST.out.aw.1 nm hnm
      have hAt := fun (W : World) (hb : Below wr.heap.size wr W) => refAt (c := c) r (HST.out.nms.below hb) (by have := HSIM.out.len; omega) nm
      have hlk := HSIM.out.look nm
      obtain ⟨⟨p0, p1, p2, p3⟩, ⟨f0, f1, f2, f3⟩⟩ := HST.out.cells
      have HAT := Lib.hid hAt
      clear hAt hlt hk hk40
      cases hl : lookL r.L nm with
      | none =>
        have e1 : has s nm = false := by rw [hlk.1, hl]; rfl
        rw [e1, valOf_no e1] at hB
        have HB := Lib.hid hB
        have ea := atN_none 0 hl
        have HAT2 : Hid (Calls Try.prog 17 #[.agg (rmA A c r), .string nm] wr fun e w' => e = .returned (.int .i64 (-1)) ∧ w' = wr.alloc (.cells (rmA A c r) 27)) := by
          have := HAT.out wr (Below.refl _ _)
          rw [ea] at this
          exact this
        clear hB hlk e1 ea hl
        rcases hex with rfl | ⟨rfl, t3⟩
        all_goals
          go_wp2_with fail
          refine Calls.mono HB.out ?_
          rintro e w2 ⟨rfl, rfl⟩
          go_wp2_with fail
          refine Calls.mono HAT2.out ?_
          rintro e w3 ⟨rfl, rfl⟩
          go_wp2_with fail
          refine (awake18 _).mono ?_
          rintro e w13 ⟨rfl, hb13⟩
          go_wp2
          go_ret
          have hbx := HST.out.base.alloc HST.out.base.size (.cells (rmA A c r) 27)
          exact ⟨rfl, hbx.trans (hb13.mono hbx.size)⟩
      | some v =>
        obtain ⟨i, hi1, hi2⟩ := atN_some0 hl
        have e1 : has s nm = true := by rw [hlk.1, hl]; rfl
        rw [e1, hlk.2 v hl] at hB
        have HB := Lib.hid hB
        have HAT2 : Hid (Calls Try.prog 17 #[.agg (rmA A c r), .string nm] wr fun e w' => e = .returned (.int .i64 (i : Int)) ∧ w' = wr.alloc (.cells (rmA A c r) 27)) := by
          have := HAT.out wr (Below.refl _ _)
          rw [hi2] at this
          exact this
        have hin := (List.getElem?_eq_some_iff.1 hi1).1
        obtain ⟨rr, o, hAe, hrl, _, _, hcc⟩ := HST.out.nms.2.2 (by omega)
        have hc2 := (hcc i _ hi1).2
        simp only at hc2
        have q1 : ∀ ob : Obj, (wr.alloc ob).cell? ⟨rr, o + i * 2 + 1, none⟩ = some (.string v) := fun ob => by rw [World.cell?_alloc_lt _ _ _ hrl]; exact hc2
        have hRlt := HST.out.lt
        have q2 : ∀ ob : Obj, (wr.alloc ob).cell? ⟨w1.heap.size, 0, none⟩ = some (.slice A r.L.length c) := fun ob => by rw [World.cell?_alloc_lt _ _ _ hRlt]; exact p0
        subst hAe
        have s1 : (i : Int) < (r.L.length : Int) := by omega
        clear hB hlk e1 hi1 hi2 hl hcc hc2 hin
        rcases hex with rfl | ⟨rfl, t3⟩
        all_goals
          go_wp2_with fail
          refine Calls.mono HB.out ?_
          rintro e w2 ⟨rfl, rfl⟩
          go_wp2_with fail
          refine Calls.mono HAT2.out ?_
          rintro e w3 ⟨rfl, rfl⟩
          go_wp2_with fail
          refine (awake18 _).mono ?_
          rintro e w13 ⟨rfl, hb13⟩
          go_wp2
          go_ret
          have hbx := HST.out.base.alloc HST.out.base.size (.cells (rmA (some ⟨rr, o, none⟩) c r) 27)
          exact ⟨rfl, hbx.trans (hb13.mono hbx.size)⟩
end Go.Proofs.Ytadagidjppgbkaa
