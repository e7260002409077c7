/- Places, slots, boxes as memory holds them; the walk over the reference's Named. -/
import Derived.Test.YtgdljjoaiogpfaaRows
import Derived.WalkKit
import Derived.WalkSpells
import Derived.WalkLawsBesides
import Derived.Deep.QuietTactic
import Derived.BigQuiet
import Derived.Lib.Hide
import Derived.Deep.RegionHeld3
import Derived.Deep.LoopGhost
import Derived.Laws.Rows
import Derived.Laws.StructEq
import Derived.Maps.AppendAt
import Derived.Deep.MidRow
namespace Go.Proofs.Ytgdljjoaiogpfaa
open Go.RowKit
/-- a place: a box, a slot of it -/
abbrev Plc := Int × Int
/-- cells by the row: whatever each element's cells are -/
def Rows2 (w : World) (A : Option Addr) (n : Nat) (vs : List (Value × Value)) : Prop :=
  vs.length = n ∧ (0 < n → ∃ b o, A = some ⟨b, o, none⟩ ∧ b < w.heap.size ∧ ∀ (i : Nat) (x : Value × Value), vs[i]? = some x → w.cell? ⟨b, o + i * 2, none⟩ = some x.1 ∧ w.cell? ⟨b, o + i * 2 + 1, none⟩ = some x.2)
theorem Rows2.below {w w' : World} {n : Nat} {A : Option Addr} {vs : List (Value × Value)} (h : Rows2 w A n vs) (hb : Below w.heap.size w w') : Rows2 w' A n vs :=
  ⟨h.1, fun hn => by
    obtain ⟨b, o, e, hl, hc⟩ := h.2 hn
    exact ⟨b, o, e, Nat.lt_of_lt_of_le hl hb.size, fun i x hi => ⟨(hb.cell (p := ⟨b, o + i * 2, none⟩) hl).trans (hc i x hi).1, (hb.cell (p := ⟨b, o + i * 2 + 1, none⟩) hl).trans (hc i x hi).2⟩⟩⟩
def plcV (p : Plc) : Value × Value := (.int .u32 p.1, .int .i64 p.2)
/-- the slice value reads as places -/
def Pls (w : World) (A : Option Addr) (n : Nat) (l : List Plc) : Prop := Rows2 w A n (l.map plcV)
theorem Pls.below {w w' : World} {n : Nat} {A : Option Addr} {l : List Plc} (h : Pls w A n l) (hb : Below w.heap.size w w') : Pls w' A n l := Rows2.below h hb
theorem Pls.len {w : World} {n : Nat} {A : Option Addr} {l : List Plc} (h : Pls w A n l) : l.length = n := by have := h.1; simpa using this
theorem Pls.get {w : World} {n : Nat} {A : Option Addr} {l : List Plc} (h : Pls w A n l) {k : Nat} {p : Plc} (hp : l[k]? = some p) :
    ∃ b o, A = some ⟨b, o, none⟩ ∧ w.cell? ⟨b, o + k * 2, none⟩ = some (.int .u32 p.1) ∧ w.cell? ⟨b, o + k * 2 + 1, none⟩ = some (.int .i64 p.2) := by
  have hk := (List.getElem?_eq_some_iff.1 hp).1
  obtain ⟨b, o, e, _, hc⟩ := h.2 (by have := h.len; omega)
  obtain ⟨c1, c2⟩ := hc k (plcV p) (by simp [hp])
  exact ⟨b, o, e, c1, c2⟩
theorem below_drewN {B : Nat} {a w : World} (h : Below B a w) (n : Nat) : Below B a (w.drewN n) := ⟨h.os, h.tape, h.output, h.size, h.block⟩
theorem below_drew {B : Nat} {a w : World} (h : Below B a w) : Below B a w.drew := ⟨h.os, h.tape, h.output, h.size, h.block⟩
theorem stood39 : Try.prog.stoodInHeld 39 = false := by kernel_rfl
theorem guard39 : Try.prog.eqGuardType Try.prog.depth 39 = false := by kernel_rfl
theorem fields39 : (Try.prog.fieldsOf 39).toList = [{ name := "Box", type := 33, offset := 0, embedded := false, tag := "", pkgPath := "", byteOffset := 0 }, { name := "Slot", type := 3, offset := 1, embedded := false, tag := "", pkgPath := "", byteOffset := 8 }] := by kernel_rfl
theorem eqIn39 (a b c d : Int) (W : World) : (Op.equalIn 10000 39 (.agg #[.int .u32 a, .int .i64 b]) (.agg #[.int .u32 c, .int .i64 d])).run Try.prog W = .ok (a == c && b == d) W := by
  rw [run_equalIn_struct W 9999 39 _ _ (by kernel_rfl) stood39, fields39]
  have p0 : ∀ (x y : Int) (W : World), (part 33 #[.int .u32 x, .int .i64 y] 0).run Try.prog W = .ok (.int .u32 x) W := fun _ _ _ => by kernel_rfl
  have p1 : ∀ (x y : Int) (W : World), (part 3 #[.int .u32 x, .int .i64 y] 1).run Try.prog W = .ok (.int .i64 y) W := fun _ _ _ => by kernel_rfl
  have q0 : ∀ (x y : Int) (W : World), (Op.equalIn 9999 33 (.int .u32 x) (.int .u32 y)).run Try.prog W = .ok (x == y) W := fun x y W => run_equalIn_int W 9998 33 .u32 .u32 x y Try.underlying33
  have q1 : ∀ (x y : Int) (W : World), (Op.equalIn 9999 3 (.int .i64 x) (.int .i64 y)).run Try.prog W = .ok (x == y) W := fun x y W => run_equalIn_int W 9998 3 .i64 .i64 x y Try.underlying3
  simp only [Op.eqFields, Sem.run_bind, p0, p1, q0, q1, Result.andThen_ok, Sem.run_ite, Sem.run_pure]
  cases a == c <;> cases b == d <;> simp
theorem eql39 (a b c d : Int) (W : World) : (binOp .eql 39 (.agg #[.int .u32 a, .int .i64 b]) (.agg #[.int .u32 c, .int .i64 d])).run Try.prog W = .ok (.bool (a == c && b == d)) W := by
  rw [run_eql_struct, eqIn39]; rfl
theorem neq39 (a b c d : Int) (W : World) : (binOp .neq 39 (.agg #[.int .u32 a, .int .i64 b]) (.agg #[.int .u32 c, .int .i64 d])).run Try.prog W = .ok (.bool (!(a == c && b == d))) W := by
  rw [run_neq_struct, eqIn39]; rfl
theorem pair_eq {x y : Plc} : ((x.1 == y.1 && x.2 == y.2) = true ∧ x = y) ∨ ((x.1 == y.1 && x.2 == y.2) = false ∧ x ≠ y) := by
  by_cases h : x = y
  · subst h; exact .inl ⟨by simp, rfl⟩
  · refine .inr ⟨?_, h⟩
    by_cases h1 : x.1 = y.1
    · have h2 : x.2 ≠ y.2 := fun e => h (Prod.ext h1 e)
      simp [h2]
    · simp [h1]
set_option maxRecDepth 100000 in
set_option maxHeartbeats 1000000 in
theorem named33 {w : World} {A : Option Addr} {n c : Nat} {l : List Plc} (h : Pls w A n l) (hn : n ≤ 1000000) (p : Plc) :
    Calls Try.prog 33 #[.slice A n c, .agg #[.int .u32 p.1, .int .i64 p.2]] w fun e w' => e = .returned (.bool (decide (p ∈ l))) ∧ Below w.heap.size w w' := by
  have H := Lib.hid h
  clear h
  have hq := eql39
  have hg := guard39
  obtain ⟨pb, ps⟩ := p
  simp only
  go_enter Try.func33, Try.ntmps33
  go_wp2_with fail
  go_loopg [4, 5] n (fun gk r i wr => r = .bool false ∧ ∃ k : Nat, k ≤ n ∧ gk = n - k ∧ i = .int .i64 k ∧ Below (w.heap.size + 1) (w.alloc (.cells #[.int .u32 pb, .int .i64 ps] 39)) wr ∧ (pb, ps) ∉ l.take k)
  case atStart => exact ⟨rfl, 0, Nat.zero_le _, rfl, rfl, Below.refl _ _, by simp⟩
  case round =>
    obtain ⟨rfl, k, hk, hgk, rfl, hbw, hnot⟩ := hrel
    have HK := Lib.hid hgk
    have HBW := Lib.hid hbw
    have HNOT := Lib.hid hnot
    have hbx := (hbw.block w.heap.size (Nat.lt_succ_self _)).trans (heap_alloc_new w (.cells #[.int .u32 pb, .int .i64 ps] 39))
    have d0 := cell_of_row wr w.heap.size 0 _ 39 (0, 0) hbx
    have d1 := cell_of_row wr w.heap.size 1 _ 39 (0, 0) hbx
    have hb0 : Below w.heap.size w wr := ((Below.refl _ _).alloc (Nat.le_refl _) _).trans (hbw.mono (Nat.le_succ _))
    have HB0 := Lib.hid hb0
    clear hgk hbw hnot hbx
    by_cases hlt : k < n
    · obtain ⟨x, hx⟩ : ∃ x, l[k]? = some x := ⟨l[k]'(by rw [H.out.len]; exact hlt), by simp⟩
      obtain ⟨b, o, rfl, c1, c2⟩ := (H.out.below hb0).get hx
      have HX := Lib.hid hx
      have hk0 : (0 : Int) ≤ (k : Int) := by omega
      have hk1 : (k : Int) < (n : Int) := by omega
      have hpe := pair_eq (x := x) (y := (pb, ps))
      clear hx hb0
      obtain ⟨xb, xs⟩ := x
      simp only at *
      rcases hpe with ⟨t1, he⟩ | ⟨t1, hne⟩
      · have HIN : Hid (decide ((pb, ps) ∈ l) = true) := by
          show _ = _
          rw [← he]
          simpa using List.mem_of_getElem? HX.out
        clear he
        go_wp2
        go_quiet (fail)
        go_wp2
        go_ret
        exact ⟨by rw [HIN.out]; rfl, below_drewN HB0.out _⟩
      · have HN2 : Hid ((pb, ps) ∉ l.take (k + 1)) := by
          intro hm
          rw [List.take_add_one, HX.out] at hm
          simp only [Option.toList_some, List.mem_append, List.mem_singleton] at hm
          rcases hm with hm | hm
          · exact HNOT.out hm
          · exact hne hm.symm
        clear hne
        go_wp2
        go_quiet (fail)
        go_wp2
        go_roundg (n - (k + 1))
        case measure => rw [HK.out]; omega
        case rel => exact ⟨rfl, k + 1, by omega, rfl, by go_num, below_drewN HBW.out _, HN2.out⟩
    · have HF : Hid (decide ((pb, ps) ∈ l) = false) := by
        have hno := HNOT.out
        rw [List.take_of_length_le (by rw [H.out.len]; omega)] at hno
        show _ = _
        exact decide_eq_false hno
      go_wp2
      go_ret
      exact ⟨by rw [HF.out]; rfl, HB0.out⟩
end Go.Proofs.Ytgdljjoaiogpfaa
