/- The walk over Sizes. -/
import Derived.Test.YtgdljjoaiogpfaaC11
import Derived.BigRegion
namespace Go.Proofs.Ytgdljjoaiogpfaa
open Go.RowKit Go.Maps
attribute [local go_sem] Oper.semAt_some
theorem results_ints2 {fn : Func} {p q : Tmp} (h : fn.results = #[.cell p 3, .cell q 3]) (tmps : Array Value) (w : World) (gp gq : Nat) (a b : Int)
    (hp : tmps.getD p undef = .pointer (some ⟨gp, 0, none⟩)) (hq : tmps.getD q undef = .pointer (some ⟨gq, 0, none⟩)) (hgp : Boxed w gp 3 (.int .i64 a)) (hgq : Boxed w gq 3 (.int .i64 b)) :
    (results fn tmps).run Try.prog w = .ok (.tuple #[.int .i64 a, .int .i64 b]) w := by
  have hp' : tmps[p]?.getD undef = .pointer (some ⟨gp, 0, none⟩) := by simpa using hp
  have hq' : tmps[q]?.getD undef = .pointer (some ⟨gq, 0, none⟩) := by simpa using hq
  have c1 := hgp.cell
  have c2 := hgq.cell
  simp [results, h, hp', hq', asAddr, Sem.run_bind, Result.andThen, go_sem, c1, c2]
def sumB (named : List Plc) (live : Bool) : List Hd → Int
  | [] => 0
  | x :: r => bytes named x live + sumB named live r
theorem sumB_snoc (named : List Plc) (live : Bool) (x : Hd) : ∀ hs, sumB named live (hs ++ [x]) = sumB named live hs + bytes named x live
  | [] => by simp [sumB]
  | y :: r => by simp [sumB, sumB_snoc named live x r]; omega
theorem bytes_le {named : List Plc} {live : Bool} {x : Hd} (hn : x.n ≤ 1000) (ho : ∀ s ∈ x.sl, SOk s) : 0 ≤ bytes named x live ∧ bytes named x live ≤ 4096000 := by
  have := bytesTo_le (named := named) (live := live) ho x.n
  unfold bytes
  omega
theorem sumB_le {named : List Plc} {live : Bool} : ∀ {hs : List Hd}, (∀ x ∈ hs, x.n ≤ 1000 ∧ ∀ s ∈ x.sl, SOk s) → 0 ≤ sumB named live hs ∧ sumB named live hs ≤ 4096000 * hs.length
  | [], _ => by simp [sumB]
  | y :: r, h => by
    have ih := sumB_le (named := named) (live := live) (hs := r) (fun x hx => h x (by simp [hx]))
    have h1 := bytes_le (named := named) (live := live) (h y (by simp)).1 (h y (by simp)).2
    simp only [sumB, List.length_cons]
    push_cast
    omega
theorem okHs_ok {hs : List Hd} (h : Lim hs) : ∀ x ∈ okHs hs, x.n ≤ 1000 ∧ ∀ s ∈ x.sl, SOk s := by
  intro x hx
  refine ⟨(okHs_len h).2 x hx, ?_⟩
  unfold okHs at hx
  split at hx
  · rename_i hm
    obtain ⟨k, hk⟩ := List.getElem?_of_mem hx
    exact (hm k).2 x hk
  · simp at hx
set_option maxRecDepth 100000 in
set_option maxHeartbeats 4000000 in
theorem sizes18 {w : World} {A : Option Addr} {n c : Nat} {hs : List Hd} {B : Option Addr} {m d : Nat} {named : List Plc} (h : InOk w A n hs B m named) :
    Calls Try.prog 18 #[.slice A n c, .slice B m d] w fun e w' => e = .returned (.tuple #[.int .i64 (sumB named true (okHs hs)), .int .i64 (sumB named false (okHs hs))]) ∧ Below w.heap.size w w' := by
  have HIN := Lib.hid h
  have HLM := Lib.hid (okHs_len h.lim)
  have HOH := Lib.hid (okHs_ok h.lim)
  clear h
  refine (callsIn_wide (n := 9)).1 ?_
  refine callsIn_of_wp_marks Try.func18 rfl trivial ?_ rfl
  simp only [Try.ntmps18, List.size_toArray, List.length_cons, List.length_nil, Nat.reduceAdd, Nat.reduceSub, Array.replicate_succ, Array.replicate_zero, List.push_toArray, List.append_toArray, List.nil_append, List.cons_append]
  gi_wp2_with (refine ⟨trivial, ?_⟩; gi_at_call 29; refine (callsIn_wide.2 (parts_in HIN.out (((Below.refl _ w).alloc (Nat.le_refl _) _).alloc (by simp) _))).mono ?_; rintro e w1 ⟨b1, b2, rfl, hb, hy⟩)
  have hsz : w.heap.size + 2 ≤ w1.heap.size := by have := hb.size; simpa using this
  have hbw : Below w.heap.size w w1 := (((Below.refl _ w).alloc (Nat.le_refl _) _).alloc (by simp) _).trans (hb.mono (by simp; omega))
  have hx0 : Boxed w1 w.heap.size 3 (.int .i64 0) := (hb.block w.heap.size (by simp; omega)).trans ((Boxed.new w 3 (.int .i64 0)).alloc _)
  have hx1 : Boxed w1 (w.heap.size + 1) 3 (.int .i64 0) := by
    have q := Boxed.new (w.alloc (.cells #[.int .i64 0] 3)) 3 (.int .i64 0)
    rw [World.size_alloc] at q
    exact (hb.block (w.heap.size + 1) (by simp)).trans q
  have hy2 : Yields Try.prog 35 #[.pointer (some ⟨b1, 0, none⟩), .pointer (some ⟨b2, 0, none⟩)] PV.val (Ex named) (Xp w.heap.size (w.heap.size + 2) w1.heap.size) (okHs hs) w1 := by simpa using hy
  clear hy
  refine wpIn_rangeE (gf := 35) (lb := #[.pointer (some ⟨b1, 0, none⟩), .pointer (some ⟨b2, 0, none⟩)]) rfl (enters_of Try.func35 (by kernel_rfl) rfl) hy2 (fun q hq => xp_lt (by omega) hsz hq) (ex_own named)
    (fun pre W => (Boxed W w.heap.size 3 (.int .i64 (sumB named true pre)) ∧ Boxed W (w.heap.size + 1) 3 (.int .i64 (sumB named false pre))) ∧ Below w.heap.size w W) (fun _ _ => False)
    (OwnFrom.and (Own.from (fun s A B row hs hg hr => ⟨boxed_own _ 3 (fun pre => .int .i64 (sumB named true pre)) s A B row hs.1 hg hr, boxed_own _ 3 (fun pre => .int .i64 (sumB named false pre)) s A B row hs.2 hg hr⟩) _) (ownFrom_below (Nat.le_refl _) (by omega)))
    (fun _ _ _ _ hf _ _ => hf) ⟨⟨hx0, hx1⟩, hbw⟩ (fun y => .cells y.cells 62)
    (fun b y => { tmps := #[.slice A n c, .slice B m d, undef, undef, .pointer (some ⟨w.heap.size, 0, none⟩), .pointer (some ⟨w.heap.size + 1, 0, none⟩), .pointer (some ⟨b, 0, none⟩), .slice A n c, .slice B m d, .func (.func 35) #[] #[.pointer (some ⟨b1, 0, none⟩), .pointer (some ⟨b2, 0, none⟩)], y.val, undef, undef, undef, undef, undef, undef, undef, undef, undef, undef], defers := [] }) ?assign ?body ?done ?stop
  case assign =>
    intro l y W K hK
    obtain ⟨yh, A1, k1, cc1, A2, k2, cc2, y1, y2⟩ := y
    simp only [PV.val, PV.cells]
    gi_wp2
    exact hK
  case body =>
    rintro l pre x rest y b W hl hxs ⟨⟨v0, v1⟩, hB⟩ hex hbk hle hwl
    obtain ⟨yh, A1, k1, cc1, A2, k2, cc2, y1, y2⟩ := y
    obtain ⟨rfl, _, _, q1, q2, _, _⟩ := hex
    simp only at q1 q2
    simp only [PV.val, PV.cells] at *
    have p1 := sumB_le (named := named) (live := true) (fun t ht => HOH.out t (by rw [hxs]; simp [ht]) : ∀ t ∈ pre, _)
    have p2 := sumB_le (named := named) (live := false) (fun t ht => HOH.out t (by rw [hxs]; simp [ht]) : ∀ t ∈ pre, _)
    have p3 := HOH.out yh (by rw [hxs]; simp)
    have p4 := bytes_le (named := named) (live := true) p3.1 p3.2
    have p5 := bytes_le (named := named) (live := false) p3.1 p3.2
    have p6 : pre.length ≤ 1000 := by have := HLM.out.1; rw [hxs] at this; simp at this; omega
    have HS1 := Lib.hid (sumB_snoc named true yh pre)
    have HS2 := Lib.hid (sumB_snoc named false yh pre)
    rw [← q1] at p4 HS1
    rw [← q2] at p5 HS2
    obtain ⟨S1, hS1⟩ : ∃ S1, sumB named true pre = S1 := ⟨_, rfl⟩
    obtain ⟨S2, hS2⟩ : ∃ S2, sumB named false pre = S2 := ⟨_, rfl⟩
    rw [hS1] at v0 p1 HS1
    rw [hS2] at v1 p2 HS2
    obtain ⟨p11, p12⟩ := p1
    obtain ⟨p21, p22⟩ := p2
    obtain ⟨p41, p42⟩ := p4
    obtain ⟨p51, p52⟩ := p5
    have g4 := cell_of_row W b 4 _ 62 (0, 0) hbk
    have hbk2 := (Below.heap_setCell W ⟨w.heap.size, 0, none⟩ (.int .i64 (S1 + y1)) b (by show b ≠ w.heap.size; omega)).trans hbk
    have g5 := cell_of_row _ b 5 _ 62 (0, 0) hbk2
    have hc0 := v0.cell
    have hf0 := v0.frozen
    have w1' := v1.other (B' := w.heap.size) (by omega) (.int .i64 (S1 + y1))
    have hc1 := w1'.cell
    have hf1 := w1'.frozen
    have HV0 := Lib.hid v0
    have HV1 := Lib.hid w1'
    have HB := Lib.hid hB
    clear hbk hbk2 v0 v1 w1' hB q1 q2 hS1 hS2 p3 hxs
    gi_wp2
    refine ⟨((KeepsOthers.setCell _ _ _).trans (KeepsOthers.setCell _ _ _)).from _, KeepX.trans (KeepX.grown (grownBy_setCell' _ _ _) fun q hq => ⟨Nat.lt_of_lt_of_le (xp_lt (by omega) hsz hq) hwl, fun e => ?_⟩) (KeepX.grown (grownBy_setCell' _ _ _) fun q hq => ⟨Nat.lt_of_lt_of_le (xp_lt (by omega) hsz hq) (Nat.le_trans hwl (grownBy_setCell' _ _ _).size), fun e => ?_⟩), ⟨?_, ?_⟩, ?_⟩
    · cases e; rcases hq with hq | hq <;> omega
    · cases e; rcases hq with hq | hq <;> omega
    · rw [HS1.out]; exact (HV0.out.set _).other (by omega) _
    · rw [HS2.out]; exact HV1.out.set _
    · exact (HB.out.setCell (p := ⟨w.heap.size, 0, none⟩) (Nat.le_refl _) _).setCell (p := ⟨w.heap.size + 1, 0, none⟩) (Nat.le_succ _) _
  case done =>
    rintro D W hD ⟨⟨v0, v1⟩, hB⟩ hK
    have hc0 := v0.cell
    have hf0 := v0.frozen
    have hc1 := v1.cell
    have hf1 := v1.frozen
    have HV0 := Lib.hid v0
    have HV1 := Lib.hid v1
    have HB := Lib.hid hB
    clear v0 v1 hB
    gi_wp2
    refine wpIn_wide.2 ?_
    go_region_with (fail)
    all_goals
      gi_wp2
      have hK2 := ((KeepsOthers.setCell W ⟨w.heap.size, 0, none⟩ (.int .i64 (sumB named true (okHs hs)))).trans (KeepsOthers.setCell _ ⟨w.heap.size + 1, 0, none⟩ (.int .i64 (sumB named false (okHs hs))))).same D _ hK rfl
      refine ⟨by simp, .inl ⟨_, _, rfl, run_takeDeferred hK2, ?_⟩⟩
      have m1 := ((HV0.out.set (.int .i64 (sumB named true (okHs hs)))).other (B' := w.heap.size + 1) (by omega) (.int .i64 (sumB named false (okHs hs)))).kept (grownBy_putObj' _ D (.deferred none)) (fun e => by cases e; omega)
      have m2 := ((HV1.out.other (B' := w.heap.size) (by omega) (.int .i64 (sumB named true (okHs hs)))).set (.int .i64 (sumB named false (okHs hs)))).kept (grownBy_putObj' _ D (.deferred none)) (fun e => by cases e; omega)
      have m3 := ((HB.out.setCell (p := ⟨w.heap.size, 0, none⟩) (Nat.le_refl _) (.int .i64 (sumB named true (okHs hs)))).setCell (p := ⟨w.heap.size + 1, 0, none⟩) (Nat.le_succ _) (.int .i64 (sumB named false (okHs hs)))).trans (belowK_b (w := w) (Nat.le_refl _) _ D _ (.deferred none) (by omega) hK2 rfl rfl)
      refine ⟨_, results_ints2 rfl _ _ _ _ _ _ rfl rfl m1 m2, rfl, below_drew m3⟩
  case stop =>
    rintro D c' W _ hf _
    exact hf.elim
end Go.Proofs.Ytgdljjoaiogpfaa
