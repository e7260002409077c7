/- The looks of the laws. -/
import Derived.Test.YtijdkgklajdbnaaAY
namespace Go.Proofs.Ytijdkgklajdbnaa
open Go.RowKit
/-- the world of a law: the hooks and the lists in their boxes -/
structure LawSt (W0 : World) (hs : List Fp) (ls : List Lst) (A B : Option Addr) (c d g1 g2 : Nat) : Prop where
  c1 : W0.cell? ⟨g1, 0, none⟩ = some (.slice A hs.length c)
  c2 : W0.cell? ⟨g2, 0, none⟩ = some (.slice B ls.length d)
  fps : Fps W0 A hs
  lss : Ls W0 B ls
  all : AllFp hs
  n1 : hs.length ≤ 20
  n2 : ls.length = hs.length
  aok : AOk A hs.length
  inn : ∀ x ∈ ls, AOk x.A x.l.length ∧ x.l.length ≤ 12 ∧ ∀ y ∈ x.l, IdOk y
theorem LawSt.got {W0 : World} {hs : List Fp} {ls : List Lst} {A B : Option Addr} {c d g1 g2 : Nat} (h : LawSt W0 hs ls A B c d g1 g2) (x : Fp) {W : World} (hw : Below W0.heap.size W0 W) : Ids W (listG hs ls x).A (listG hs ls x).l ∧ AOk (listG hs ls x).A (listG hs ls x).l.length ∧ (listG hs ls x).l.length ≤ 12 := by
  rcases listG_in (hs := hs) (ls := ls) (x := x) with e | e
  · rw [e]; exact ⟨Ids.nil _ _, .inl ⟨rfl, rfl⟩, Nat.zero_le _⟩
  · exact ⟨((h.lss.below hw).2 _ e).1, (h.inn _ e).1, (h.inn _ e).2.1⟩
theorem LawSt.told {W0 : World} {hs : List Fp} {ls : List Lst} {A B : Option Addr} {c d g1 g2 : Nat} (h : LawSt W0 hs ls A B c d g1 g2) : (ids (toldL hs ls)).length ≤ 1000 ∧ AllOk (askP (ids (toldL hs ls))) := by
  refine ⟨by rw [ids_len, told_len]; have := setF_len hs; have := h.n1; omega, fun l hl y hy => ?_⟩
  obtain ⟨m, hm, rfl⟩ := List.mem_map.1 hl
  obtain ⟨z, hz, rfl⟩ := List.mem_map.1 hm
  obtain ⟨q, _, rfl⟩ := List.mem_map.1 hz
  rw [dsL_mem] at hy
  rcases listG_in (hs := hs) (ls := ls) (x := q) with e | e
  · rw [e] at hy; cases hy
  · exact (h.inn _ e).2.2 y hy
theorem below_ok (W0 : World) : BelowOk (fun W => Below W0.heap.size W0 W) := fun _ _ h hb => h.trans (hb.mono h.size)
set_option maxRecDepth 100000 in
set_option maxHeartbeats 2000000 in
theorem closure11 {A B : Option Addr} {c d g1 g2 : Nat} {hs : List Fp} {ls : List Lst} {x : Fp} {w : World} (h1 : w.cell? ⟨g1, 0, none⟩ = some (.slice A hs.length c)) (h2 : w.cell? ⟨g2, 0, none⟩ = some (.slice B ls.length d)) (h : Fps w A hs) (hl : Ls w B ls) (ha : AllFp hs) (hx : IsFp x) (hn : hs.length ≤ 1000000) :
    Calls Try.prog 11 #[.agg (fpL x).toArray, .pointer (some ⟨g1, 0, none⟩), .pointer (some ⟨g2, 0, none⟩)] w fun e w' => e = .returned (.slice (listG hs ls x).A (listG hs ls x).l.length (listG hs ls x).c) ∧ Below w.heap.size w w' := by
  have HB : Hid (Below w.heap.size w (w.alloc (.cells (fpL x).toArray 29))) := Lib.hid ((Below.refl _ _).alloc (Nat.le_refl _) _)
  have HC := Lib.hid (list12 (c := c) (d := d) (h.below HB.out) (hl.below HB.out) ha hx hn)
  have HRX : Hid ((w.alloc (.cells (fpL x).toArray 29)).rangeAt w.heap.size 0 (fpL x)) := Lib.hid (range_new w x 29 _ rfl)
  have HIX := Lib.hid (info29f hx)
  have hg1 := World.block_lt_of_cell? w _ h1
  have hg2 := World.block_lt_of_cell? w _ h2
  have c1 : (w.alloc (.cells (fpL x).toArray 29)).cell? ⟨g1, 0, none⟩ = some (.slice A hs.length c) := (HB.out.cell (p := ⟨g1, 0, none⟩) hg1).trans h1
  have c2 : (w.alloc (.cells (fpL x).toArray 29)).cell? ⟨g2, 0, none⟩ = some (.slice B ls.length d) := (HB.out.cell (p := ⟨g2, 0, none⟩) hg2).trans h2
  generalize listG hs ls x = L at *
  clear h hl ha hx hn h1 h2
  go_enter Try.func11, Try.ntmps11
  go_wp2_with (first
    | ((with_reducible refine wpList_load_mid (op := ⟨some 7, _, _, _, _, _⟩) rfl 29 (.tmp 3) rfl w.heap.size 0 ?_ (fpL x) _ HRX.out Try.underlying29 rfl HIX.out ?_); rfl)
    | (go_at_call 12; refine Calls.mono HC.out ?_; rintro e w1 ⟨rfl, hb⟩; have HB1 := Lib.hid (HB.out.trans (hb.mono HB.out.size)); clear hb))
  go_ret
  exact ⟨rfl, HB1.out⟩
theorem eg11 : ∀ args w, (callFunc 11 args).run Try.prog w = .ok (.enter 11 args) w := enters_of Try.func11 (by kernel_rfl) rfl
theorem look11 {W0 : World} {hs : List Fp} {ls : List Lst} {A B : Option Addr} {c d g1 g2 : Nat} (h : LawSt W0 hs ls A B c d g1 g2) :
    Look 11 #[.pointer (some ⟨g1, 0, none⟩), .pointer (some ⟨g2, 0, none⟩)] (fun x => (listG hs ls x).l) (fun _ W => Below W0.heap.size W0 W) (fun _ b => b < W0.heap.size) where
  lt done W b hi ht := Nat.lt_of_lt_of_le ht hi.size
  keep done W W' row hi hg hr := ⟨hi.grown hg hi.size (fun j hj => Nat.le_of_not_lt (hr j hj)), fun b hb => hb⟩
  call done x W _ hi hx := by
    refine (closure11 (c := c) (d := d) ((hi.cell (p := ⟨g1, 0, none⟩) (World.block_lt_of_cell? W0 _ h.c1)).trans h.c1) ((hi.cell (p := ⟨g2, 0, none⟩) (World.block_lt_of_cell? W0 _ h.c2)).trans h.c2) (h.fps.below hi) (h.lss.below hi) h.all hx (by have := h.n1; omega)).mono ?_
    rintro e w' ⟨he, hb⟩
    have hbw := hi.trans (hb.mono hi.size)
    exact ⟨listG hs ls x, he, rfl, (h.got x hbw).1, (h.got x hbw).2.1, (h.got x hbw).2.2, hbw, ⟨hb.os, hb.tape, hb.output, hb.size, fun b hb' _ => hb.block b hb', fun b hb' => .inl hb'⟩⟩
  eg := eg11
theorem asked11 {W0 w : World} {hs : List Fp} {ls : List Lst} {A B : Option Addr} {c d g1 g2 : Nat} (h : LawSt W0 hs ls A B c d g1 g2) (hw : Below W0.heap.size W0 w) :
    Asked A hs.length c (.func (.func 11) #[] #[.pointer (some ⟨g1, 0, none⟩), .pointer (some ⟨g2, 0, none⟩)]) w (askP (ids (toldL hs ls))) (fun W => Below W0.heap.size W0 W) := by
  refine (ask29 (look11 h) hw (h.fps.below hw) h.all (by have := h.n1; omega) h.aok).mono ?_
  rintro e w' ⟨B', d', vs, he, hids, hrow, hin, h12, hinv, _⟩
  exact ⟨B', d', vs, he, by rw [hids, askI_told], hrow, hin, h12, hinv⟩
set_option maxRecDepth 100000 in
set_option maxHeartbeats 2000000 in
theorem closure16 {A B : Option Addr} {c d g1 g2 : Nat} {hs : List Fp} {ls : List Lst} {x : Fp} {w : World} (h1 : w.cell? ⟨g1, 0, none⟩ = some (.slice A hs.length c)) (h2 : w.cell? ⟨g2, 0, none⟩ = some (.slice B ls.length d)) (h : Fps w A hs) (hl : Ls w B ls) (ha : AllFp hs) (hx : IsFp x) (hn : hs.length ≤ 1000000) :
    Calls Try.prog 16 #[.agg (fpL x).toArray, .pointer (some ⟨g1, 0, none⟩), .pointer (some ⟨g2, 0, none⟩)] w fun e w' => e = .returned (.slice (listG hs ls x).A (listG hs ls x).l.length (listG hs ls x).c) ∧ Below w.heap.size w w' := by
  have HB : Hid (Below w.heap.size w (w.alloc (.cells (fpL x).toArray 29))) := Lib.hid ((Below.refl _ _).alloc (Nat.le_refl _) _)
  have HC := Lib.hid (list12 (c := c) (d := d) (h.below HB.out) (hl.below HB.out) ha hx hn)
  have HRX : Hid ((w.alloc (.cells (fpL x).toArray 29)).rangeAt w.heap.size 0 (fpL x)) := Lib.hid (range_new w x 29 _ rfl)
  have HIX := Lib.hid (info29f hx)
  have hg1 := World.block_lt_of_cell? w _ h1
  have hg2 := World.block_lt_of_cell? w _ h2
  have c1 : (w.alloc (.cells (fpL x).toArray 29)).cell? ⟨g1, 0, none⟩ = some (.slice A hs.length c) := (HB.out.cell (p := ⟨g1, 0, none⟩) hg1).trans h1
  have c2 : (w.alloc (.cells (fpL x).toArray 29)).cell? ⟨g2, 0, none⟩ = some (.slice B ls.length d) := (HB.out.cell (p := ⟨g2, 0, none⟩) hg2).trans h2
  generalize listG hs ls x = L at *
  clear h hl ha hx hn h1 h2
  go_enter Try.func16, Try.ntmps16
  go_wp2_with (first
    | ((with_reducible refine wpList_load_mid (op := ⟨some 7, _, _, _, _, _⟩) rfl 29 (.tmp 3) rfl w.heap.size 0 ?_ (fpL x) _ HRX.out Try.underlying29 rfl HIX.out ?_); rfl)
    | (go_at_call 12; refine Calls.mono HC.out ?_; rintro e w1 ⟨rfl, hb⟩; have HB1 := Lib.hid (HB.out.trans (hb.mono HB.out.size)); clear hb))
  go_ret
  exact ⟨rfl, HB1.out⟩
theorem eg16 : ∀ args w, (callFunc 16 args).run Try.prog w = .ok (.enter 16 args) w := enters_of Try.func16 (by kernel_rfl) rfl
theorem look16 {W0 : World} {hs : List Fp} {ls : List Lst} {A B : Option Addr} {c d g1 g2 : Nat} (h : LawSt W0 hs ls A B c d g1 g2) :
    Look 16 #[.pointer (some ⟨g1, 0, none⟩), .pointer (some ⟨g2, 0, none⟩)] (fun x => (listG hs ls x).l) (fun _ W => Below W0.heap.size W0 W) (fun _ b => b < W0.heap.size) where
  lt done W b hi ht := Nat.lt_of_lt_of_le ht hi.size
  keep done W W' row hi hg hr := ⟨hi.grown hg hi.size (fun j hj => Nat.le_of_not_lt (hr j hj)), fun b hb => hb⟩
  call done x W _ hi hx := by
    refine (closure16 (c := c) (d := d) ((hi.cell (p := ⟨g1, 0, none⟩) (World.block_lt_of_cell? W0 _ h.c1)).trans h.c1) ((hi.cell (p := ⟨g2, 0, none⟩) (World.block_lt_of_cell? W0 _ h.c2)).trans h.c2) (h.fps.below hi) (h.lss.below hi) h.all hx (by have := h.n1; omega)).mono ?_
    rintro e w' ⟨he, hb⟩
    have hbw := hi.trans (hb.mono hi.size)
    exact ⟨listG hs ls x, he, rfl, (h.got x hbw).1, (h.got x hbw).2.1, (h.got x hbw).2.2, hbw, ⟨hb.os, hb.tape, hb.output, hb.size, fun b hb' _ => hb.block b hb', fun b hb' => .inl hb'⟩⟩
  eg := eg16
theorem asked16 {W0 w : World} {hs : List Fp} {ls : List Lst} {A B : Option Addr} {c d g1 g2 : Nat} (h : LawSt W0 hs ls A B c d g1 g2) (hw : Below W0.heap.size W0 w) :
    Asked A hs.length c (.func (.func 16) #[] #[.pointer (some ⟨g1, 0, none⟩), .pointer (some ⟨g2, 0, none⟩)]) w (askP (ids (toldL hs ls))) (fun W => Below W0.heap.size W0 W) := by
  refine (ask29 (look16 h) hw (h.fps.below hw) h.all (by have := h.n1; omega) h.aok).mono ?_
  rintro e w' ⟨B', d', vs, he, hids, hrow, hin, h12, hinv, _⟩
  exact ⟨B', d', vs, he, by rw [hids, askI_told], hrow, hin, h12, hinv⟩
set_option maxRecDepth 100000 in
set_option maxHeartbeats 2000000 in
theorem closure19 {A B : Option Addr} {c d g1 g2 : Nat} {hs : List Fp} {ls : List Lst} {x : Fp} {w : World} (h1 : w.cell? ⟨g1, 0, none⟩ = some (.slice A hs.length c)) (h2 : w.cell? ⟨g2, 0, none⟩ = some (.slice B ls.length d)) (h : Fps w A hs) (hl : Ls w B ls) (ha : AllFp hs) (hx : IsFp x) (hn : hs.length ≤ 1000000) :
    Calls Try.prog 19 #[.agg (fpL x).toArray, .pointer (some ⟨g1, 0, none⟩), .pointer (some ⟨g2, 0, none⟩)] w fun e w' => e = .returned (.slice (listG hs ls x).A (listG hs ls x).l.length (listG hs ls x).c) ∧ Below w.heap.size w w' := by
  have HB : Hid (Below w.heap.size w (w.alloc (.cells (fpL x).toArray 29))) := Lib.hid ((Below.refl _ _).alloc (Nat.le_refl _) _)
  have HC := Lib.hid (list12 (c := c) (d := d) (h.below HB.out) (hl.below HB.out) ha hx hn)
  have HRX : Hid ((w.alloc (.cells (fpL x).toArray 29)).rangeAt w.heap.size 0 (fpL x)) := Lib.hid (range_new w x 29 _ rfl)
  have HIX := Lib.hid (info29f hx)
  have hg1 := World.block_lt_of_cell? w _ h1
  have hg2 := World.block_lt_of_cell? w _ h2
  have c1 : (w.alloc (.cells (fpL x).toArray 29)).cell? ⟨g1, 0, none⟩ = some (.slice A hs.length c) := (HB.out.cell (p := ⟨g1, 0, none⟩) hg1).trans h1
  have c2 : (w.alloc (.cells (fpL x).toArray 29)).cell? ⟨g2, 0, none⟩ = some (.slice B ls.length d) := (HB.out.cell (p := ⟨g2, 0, none⟩) hg2).trans h2
  generalize listG hs ls x = L at *
  clear h hl ha hx hn h1 h2
  go_enter Try.func19, Try.ntmps19
  go_wp2_with (first
    | ((with_reducible refine wpList_load_mid (op := ⟨some 7, _, _, _, _, _⟩) rfl 29 (.tmp 3) rfl w.heap.size 0 ?_ (fpL x) _ HRX.out Try.underlying29 rfl HIX.out ?_); rfl)
    | (go_at_call 12; refine Calls.mono HC.out ?_; rintro e w1 ⟨rfl, hb⟩; have HB1 := Lib.hid (HB.out.trans (hb.mono HB.out.size)); clear hb))
  go_ret
  exact ⟨rfl, HB1.out⟩
theorem eg19 : ∀ args w, (callFunc 19 args).run Try.prog w = .ok (.enter 19 args) w := enters_of Try.func19 (by kernel_rfl) rfl
theorem look19 {W0 : World} {hs : List Fp} {ls : List Lst} {A B : Option Addr} {c d g1 g2 : Nat} (h : LawSt W0 hs ls A B c d g1 g2) :
    Look 19 #[.pointer (some ⟨g1, 0, none⟩), .pointer (some ⟨g2, 0, none⟩)] (fun x => (listG hs ls x).l) (fun _ W => Below W0.heap.size W0 W) (fun _ b => b < W0.heap.size) where
  lt done W b hi ht := Nat.lt_of_lt_of_le ht hi.size
  keep done W W' row hi hg hr := ⟨hi.grown hg hi.size (fun j hj => Nat.le_of_not_lt (hr j hj)), fun b hb => hb⟩
  call done x W _ hi hx := by
    refine (closure19 (c := c) (d := d) ((hi.cell (p := ⟨g1, 0, none⟩) (World.block_lt_of_cell? W0 _ h.c1)).trans h.c1) ((hi.cell (p := ⟨g2, 0, none⟩) (World.block_lt_of_cell? W0 _ h.c2)).trans h.c2) (h.fps.below hi) (h.lss.below hi) h.all hx (by have := h.n1; omega)).mono ?_
    rintro e w' ⟨he, hb⟩
    have hbw := hi.trans (hb.mono hi.size)
    exact ⟨listG hs ls x, he, rfl, (h.got x hbw).1, (h.got x hbw).2.1, (h.got x hbw).2.2, hbw, ⟨hb.os, hb.tape, hb.output, hb.size, fun b hb' _ => hb.block b hb', fun b hb' => .inl hb'⟩⟩
  eg := eg19
theorem asked19 {W0 w : World} {hs : List Fp} {ls : List Lst} {A B : Option Addr} {c d g1 g2 : Nat} (h : LawSt W0 hs ls A B c d g1 g2) (hw : Below W0.heap.size W0 w) :
    Asked A hs.length c (.func (.func 19) #[] #[.pointer (some ⟨g1, 0, none⟩), .pointer (some ⟨g2, 0, none⟩)]) w (askP (ids (toldL hs ls))) (fun W => Below W0.heap.size W0 W) := by
  refine (ask29 (look19 h) hw (h.fps.below hw) h.all (by have := h.n1; omega) h.aok).mono ?_
  rintro e w' ⟨B', d', vs, he, hids, hrow, hin, h12, hinv, _⟩
  exact ⟨B', d', vs, he, by rw [hids, askI_told], hrow, hin, h12, hinv⟩
set_option maxRecDepth 100000 in
set_option maxHeartbeats 2000000 in
theorem closure25 {A B : Option Addr} {c d g1 g2 : Nat} {hs : List Fp} {ls : List Lst} {x : Fp} {w : World} (h1 : w.cell? ⟨g1, 0, none⟩ = some (.slice A hs.length c)) (h2 : w.cell? ⟨g2, 0, none⟩ = some (.slice B ls.length d)) (h : Fps w A hs) (hl : Ls w B ls) (ha : AllFp hs) (hx : IsFp x) (hn : hs.length ≤ 1000000) :
    Calls Try.prog 25 #[.agg (fpL x).toArray, .pointer (some ⟨g1, 0, none⟩), .pointer (some ⟨g2, 0, none⟩)] w fun e w' => e = .returned (.slice (listG hs ls x).A (listG hs ls x).l.length (listG hs ls x).c) ∧ Below w.heap.size w w' := by
  have HB : Hid (Below w.heap.size w (w.alloc (.cells (fpL x).toArray 29))) := Lib.hid ((Below.refl _ _).alloc (Nat.le_refl _) _)
  have HC := Lib.hid (list12 (c := c) (d := d) (h.below HB.out) (hl.below HB.out) ha hx hn)
  have HRX : Hid ((w.alloc (.cells (fpL x).toArray 29)).rangeAt w.heap.size 0 (fpL x)) := Lib.hid (range_new w x 29 _ rfl)
  have HIX := Lib.hid (info29f hx)
  have hg1 := World.block_lt_of_cell? w _ h1
  have hg2 := World.block_lt_of_cell? w _ h2
  have c1 : (w.alloc (.cells (fpL x).toArray 29)).cell? ⟨g1, 0, none⟩ = some (.slice A hs.length c) := (HB.out.cell (p := ⟨g1, 0, none⟩) hg1).trans h1
  have c2 : (w.alloc (.cells (fpL x).toArray 29)).cell? ⟨g2, 0, none⟩ = some (.slice B ls.length d) := (HB.out.cell (p := ⟨g2, 0, none⟩) hg2).trans h2
  generalize listG hs ls x = L at *
  clear h hl ha hx hn h1 h2
  go_enter Try.func25, Try.ntmps25
  go_wp2_with (first
    | ((with_reducible refine wpList_load_mid (op := ⟨some 7, _, _, _, _, _⟩) rfl 29 (.tmp 3) rfl w.heap.size 0 ?_ (fpL x) _ HRX.out Try.underlying29 rfl HIX.out ?_); rfl)
    | (go_at_call 12; refine Calls.mono HC.out ?_; rintro e w1 ⟨rfl, hb⟩; have HB1 := Lib.hid (HB.out.trans (hb.mono HB.out.size)); clear hb))
  go_ret
  exact ⟨rfl, HB1.out⟩
theorem eg25 : ∀ args w, (callFunc 25 args).run Try.prog w = .ok (.enter 25 args) w := enters_of Try.func25 (by kernel_rfl) rfl
theorem look25 {W0 : World} {hs : List Fp} {ls : List Lst} {A B : Option Addr} {c d g1 g2 : Nat} (h : LawSt W0 hs ls A B c d g1 g2) :
    Look 25 #[.pointer (some ⟨g1, 0, none⟩), .pointer (some ⟨g2, 0, none⟩)] (fun x => (listG hs ls x).l) (fun _ W => Below W0.heap.size W0 W) (fun _ b => b < W0.heap.size) where
  lt done W b hi ht := Nat.lt_of_lt_of_le ht hi.size
  keep done W W' row hi hg hr := ⟨hi.grown hg hi.size (fun j hj => Nat.le_of_not_lt (hr j hj)), fun b hb => hb⟩
  call done x W _ hi hx := by
    refine (closure25 (c := c) (d := d) ((hi.cell (p := ⟨g1, 0, none⟩) (World.block_lt_of_cell? W0 _ h.c1)).trans h.c1) ((hi.cell (p := ⟨g2, 0, none⟩) (World.block_lt_of_cell? W0 _ h.c2)).trans h.c2) (h.fps.below hi) (h.lss.below hi) h.all hx (by have := h.n1; omega)).mono ?_
    rintro e w' ⟨he, hb⟩
    have hbw := hi.trans (hb.mono hi.size)
    exact ⟨listG hs ls x, he, rfl, (h.got x hbw).1, (h.got x hbw).2.1, (h.got x hbw).2.2, hbw, ⟨hb.os, hb.tape, hb.output, hb.size, fun b hb' _ => hb.block b hb', fun b hb' => .inl hb'⟩⟩
  eg := eg25
theorem asked25 {W0 w : World} {hs : List Fp} {ls : List Lst} {A B : Option Addr} {c d g1 g2 : Nat} (h : LawSt W0 hs ls A B c d g1 g2) (hw : Below W0.heap.size W0 w) :
    Asked A hs.length c (.func (.func 25) #[] #[.pointer (some ⟨g1, 0, none⟩), .pointer (some ⟨g2, 0, none⟩)]) w (askP (ids (toldL hs ls))) (fun W => Below W0.heap.size W0 W) := by
  refine (ask29 (look25 h) hw (h.fps.below hw) h.all (by have := h.n1; omega) h.aok).mono ?_
  rintro e w' ⟨B', d', vs, he, hids, hrow, hin, h12, hinv, _⟩
  exact ⟨B', d', vs, he, by rw [hids, askI_told], hrow, hin, h12, hinv⟩
end Go.Proofs.Ytijdkgklajdbnaa
