/- The walk over Parse. -/
import Derived.Test.YtocfhldmnbmapaaGreatDoorAD
namespace Go.Proofs.YtocfhldmnbmapaaGreatDoor
open Go.RowKit
def parseF (s : List UInt8) : Fd := (parseO s).getD zfd
def parseE (s : List UInt8) : Int := if (parseO s).isSome then 0 else 7
def ParsePost (s : List UInt8) (w : World) (e : Ending) (w' : World) : Prop := e = .returned (.tuple #[.agg (fdV (parseF s)), .int .i64 (parseE s)]) ∧ Below w.heap.size w w'
theorem info25 : (Tryz.prog.info? 25).map (·.size) = some 4 := by kernel_rfl
theorem loadVar25 {W : World} {b : Nat} {f : Fd} (h : W.heap[b]? = some (.cells (fdV f) 25 (0, 0))) : (loadVar 25 ⟨b, 0, none⟩).run Tryz.prog W = .ok (.agg (fdV f)) W := by
  have c0 := cell_of_row W b 0 _ 25 (0, 0) h
  have c1 := cell_of_row W b 1 _ 25 (0, 0) h
  have c2 := cell_of_row W b 2 _ 25 (0, 0) h
  have c3 := cell_of_row W b 3 _ 25 (0, 0) h
  obtain ⟨k, id, nm, a⟩ := f
  unfold fdV at *
  simp only at *
  go_simp
theorem St.set_r {w0 w : World} {r0 wb fb ob : Nat} {ws : List (List UInt8)} {ok : Bool} {f : Fd} (h : St w0 r0 wb fb ob ws ok f w) (cs : Array Value) : (w.setRow r0 cs).heap[r0]? = some (.cells cs 25 (0, 0)) ∧ Below w0.heap.size w0 (w.setRow r0 cs) :=
  ⟨setRow_heap _ _ _ _ _ _ h.hr, below_grown0 h.bl (setRow_grown w r0 cs) h.ge.1⟩
/-- a field that is read goes on -/
theorem Stage.num1 {w0 w : World} {r0 wb fb ob k : Nat} {ws ws' : List (List UInt8)} {ok : Bool} {f : Fd} {x : List UInt8} {n : Nat} {b : Bool} (hx : (hasT (k : Nat)).1 = true) (hf : f = ⟨(k : Nat), 0, [], 0⟩) (hl : (∀ y ∈ ws, y.length ≤ 1000000) ∧ ws.length ≤ 1000000) (hg0 : Gw w0) (h : St w0 r0 wb fb ob ws' ok f w) (hn : (ws = [] ∧ ok = false ∧ ws' = []) ∨ (ws = x :: ws' ∧ ok = true)) (h1 : n < 4294967296) (h2 : b = true → numO x = some n) (h3 : b = false → numO x = none) : Stage w0 r0 wb fb ob (r1O k ws) ((w.setCell ⟨fb, 1, none⟩ (.int .u32 (n : Nat))).setCell ⟨ob, 0, none⟩ (.bool (ok && b))) := by
  subst hf
  refine ⟨ok && b, ws', ⟨(k : Nat), n, [], 0⟩, (h.set_f hg0 1 _ ⟨(k : Nat), n, [], 0⟩ rfl).set_ok hg0 _, fun q => ?_, fun q => ?_, h1, by simp only; omega, ?_⟩
  · simp only [Bool.and_eq_true] at q
    rcases hn with ⟨_, q2, _⟩ | ⟨rfl, _⟩
    · rw [q2] at q; cases q.1
    · unfold r1O argN
      rw [hx, if_pos rfl]
      simp only
      rw [h2 q.2]
      rfl
  · unfold r1O argN
    rw [hx, if_pos rfl]
    rcases hn with ⟨rfl, _, _⟩ | ⟨rfl, q2⟩
    · rfl
    · rw [q2] at q
      simp only
      rw [h3 (by simpa using q)]
      rfl
  · rcases hn with ⟨_, _, rfl⟩ | ⟨rfl, _⟩
    · exact ⟨fun y hy => (by cases hy), Nat.zero_le _⟩
    · exact ⟨fun y hy => hl.1 y (List.mem_cons_of_mem _ hy), by have := hl.2; simp only [List.length_cons] at this; omega⟩
theorem Stage.txt2 {w0 w : World} {r0 wb fb ob : Nat} {ws ws' : List (List UInt8)} {ok0 ok : Bool} {f : Fd} {x t : List UInt8} {b : Bool} {res : Option (Fd × List (List UInt8))} (hr1 : ok0 = true → res = some (f, ws)) (hr2 : ok0 = false → res = none) (hf : f.at_ < 4294967296 ∧ f.id < 4294967296) (hz : ∀ p, res = some p → p.1.at_ = 0) (hl : (∀ y ∈ ws, y.length ≤ 1000000) ∧ ws.length ≤ 1000000) (hg0 : Gw w0) (h : St w0 r0 wb fb ob ws' ok f w) (hn : (ws = [] ∧ ok = false ∧ ws' = []) ∨ (ws = x :: ws' ∧ ok = ok0)) (h2 : b = true → unhex x = some t) (h3 : b = false → unhex x = none) : Stage w0 r0 wb fb ob (r2O true res) ((w.setCell ⟨fb, 2, none⟩ (.string (str t))).setCell ⟨ob, 0, none⟩ (.bool (ok && b))) := by
  obtain ⟨k, id, nm, a⟩ := f
  simp only at hf
  obtain ⟨ha, hid⟩ := hf
  refine ⟨ok && b, ws', ⟨k, id, t, a⟩, (h.set_f hg0 2 _ ⟨k, id, t, a⟩ rfl).set_ok hg0 _, fun q => ?_, fun q => ?_, hid, ha, ?_⟩
  · simp only [Bool.and_eq_true] at q
    rcases hn with ⟨_, q2, _⟩ | ⟨rfl, q2⟩
    · rw [q2] at q; cases q.1
    · rw [q2] at q
      have hz2 := hz _ (hr1 q.1)
      simp only at hz2
      subst hz2
      rw [hr1 q.1]
      unfold r2O argT
      simp only [Option.bind_some, if_true]
      rw [h2 q.2]
      rfl
  · cases ok0 with
    | false => rw [hr2 rfl]; rfl
    | true =>
      rw [hr1 rfl]
      unfold r2O argT
      simp only [Option.bind_some, if_true]
      rcases hn with ⟨rfl, _, _⟩ | ⟨rfl, q2⟩
      · rfl
      · rw [q2] at q
        simp only
        rw [h3 (by simpa using q)]
        rfl
  · rcases hn with ⟨_, _, rfl⟩ | ⟨rfl, _⟩
    · exact ⟨fun y hy => (by cases hy), Nat.zero_le _⟩
    · exact ⟨fun y hy => hl.1 y (List.mem_cons_of_mem _ hy), by have := hl.2; simp only [List.length_cons] at this; omega⟩
theorem Stage.num3 {w0 w : World} {r0 wb fb ob : Nat} {ws ws' : List (List UInt8)} {ok0 ok : Bool} {f : Fd} {x : List UInt8} {n : Nat} {b : Bool} {res : Option (Fd × List (List UInt8))} (hr1 : ok0 = true → res = some (f, ws)) (hr2 : ok0 = false → res = none) (hf : f.id < 4294967296) (hl : (∀ y ∈ ws, y.length ≤ 1000000) ∧ ws.length ≤ 1000000) (hg0 : Gw w0) (h : St w0 r0 wb fb ob ws' ok f w) (hn : (ws = [] ∧ ok = false ∧ ws' = []) ∨ (ws = x :: ws' ∧ ok = ok0)) (h1 : n < 4294967296) (h2 : b = true → numO x = some n) (h3 : b = false → numO x = none) : Stage w0 r0 wb fb ob (r3O true res) ((w.setCell ⟨fb, 3, none⟩ (.int .i64 (n : Nat))).setCell ⟨ob, 0, none⟩ (.bool (ok && b))) := by
  obtain ⟨k, id, nm, a⟩ := f
  simp only at hf
  refine ⟨ok && b, ws', ⟨k, id, nm, (n : Nat)⟩, (h.set_f hg0 3 _ ⟨k, id, nm, (n : Nat)⟩ rfl).set_ok hg0 _, fun q => ?_, fun q => ?_, hf, by simp only; omega, ?_⟩
  · simp only [Bool.and_eq_true] at q
    rcases hn with ⟨_, q2, _⟩ | ⟨rfl, q2⟩
    · rw [q2] at q; cases q.1
    · rw [q2] at q
      rw [hr1 q.1]
      unfold r3O argN
      simp only [Option.bind_some, if_true]
      rw [h2 q.2]
      rfl
  · cases ok0 with
    | false => rw [hr2 rfl]; rfl
    | true =>
      rw [hr1 rfl]
      unfold r3O argN
      simp only [Option.bind_some, if_true]
      rcases hn with ⟨rfl, _, _⟩ | ⟨rfl, q2⟩
      · rfl
      · rw [q2] at q
        simp only
        rw [h3 (by simpa using q)]
        rfl
  · rcases hn with ⟨_, _, rfl⟩ | ⟨rfl, _⟩
    · exact ⟨fun y hy => (by cases hy), Nat.zero_le _⟩
    · exact ⟨fun y hy => hl.1 y (List.mem_cons_of_mem _ hy), by have := hl.2; simp only [List.length_cons] at this; omega⟩
theorem r2_false (r : Option (Fd × List (List UInt8))) (h : ∀ p, r = some p → p.1.nm = [] ∧ p.1.at_ = 0) : r2O false r = r := by
  cases r with
  | none => rfl
  | some p =>
    obtain ⟨⟨k, id, nm, a⟩, ws⟩ := p
    obtain ⟨h1, h2⟩ := h _ rfl
    simp only at h1 h2
    subst h1; subst h2
    rfl
theorem r1_plain {k : Nat} {ws : List (List UInt8)} : ∀ p, r1O k ws = some p → p.1.nm = [] ∧ p.1.at_ = 0 := fun p h => by
  unfold r1O at h
  obtain ⟨x, _, rfl⟩ := Option.map_eq_some_iff.1 h
  exact ⟨rfl, rfl⟩
theorem r2_plain {y : Bool} {r : Option (Fd × List (List UInt8))} : ∀ p, r2O y r = some p → p.1.at_ = 0 := fun p h => by
  unfold r2O at h
  obtain ⟨q, _, h⟩ := Option.bind_eq_some_iff.1 h
  obtain ⟨x, _, rfl⟩ := Option.map_eq_some_iff.1 h
  rfl
theorem r3_false (r : Option (Fd × List (List UInt8))) (h : ∀ p, r = some p → p.1.at_ = 0) : r3O false r = r := by
  cases r with
  | none => rfl
  | some p =>
    obtain ⟨⟨k, id, nm, a⟩, ws⟩ := p
    have h2 := h _ rfl
    simp only at h2
    subst h2
    rfl
theorem r1_false {k : Nat} {ws : List (List UInt8)} (h : (hasT (k : Nat)).1 = false) : r1O k ws = some (⟨(k : Nat), 0, [], 0⟩, ws) := by
  unfold r1O argN
  rw [h]
  rfl
end Go.Proofs.YtocfhldmnbmapaaGreatDoor
