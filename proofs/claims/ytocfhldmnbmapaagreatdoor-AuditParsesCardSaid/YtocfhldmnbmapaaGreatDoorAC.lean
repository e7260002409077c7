/- What Parse holds while it reads; the walk over its closure. -/
import Derived.Test.YtocfhldmnbmapaaGreatDoorA5
import Derived.Test.YtocfhldmnbmapaaGreatDoorA8
import Derived.Test.YtocfhldmnbmapaaGreatDoorAA
namespace Go.Proofs.YtocfhldmnbmapaaGreatDoor
open Go.RowKit
theorem set_grown (W : World) (b i : Nat) (v : Value) : W.grownBy (W.setCell ⟨b, i, none⟩ v) (some b) :=
  ⟨rfl, rfl, rfl, by simp, fun k _ hne => heap_setCell_other W ⟨b, i, none⟩ k v (fun e => hne (by rw [e]))⟩
/-- words in memory, as a slice whose capacity ends with them -/
def WsV (w : World) (v : Value) (ws : List (List UInt8)) (T : Nat → Prop) : Prop := ∃ N o, v = .slice (some ⟨N, o, none⟩) ws.length ws.length ∧ N < w.heap.size ∧ ¬ T N ∧ ∀ i x, ws[i]? = some x → w.cell? ⟨N, o + i, none⟩ = some (.string (str x))
theorem WsV.grown {w w' : World} {v : Value} {ws : List (List UInt8)} {T : Nat → Prop} {b : Nat} (h : WsV w v ws T) (hg : w.grownBy w' (some b)) (hb : T b) : WsV w' v ws T := by
  obtain ⟨N, o, e, h1, h2, h3⟩ := h
  exact ⟨N, o, e, Nat.lt_of_lt_of_le h1 hg.size, h2, fun i x hx => hg.cell (h3 i x hx) (fun q => by injection q with q; simp only at q; exact h2 (by rw [q]; exact hb))⟩
theorem WsV.below {w w' : World} {v : Value} {ws : List (List UInt8)} {T : Nat → Prop} (h : WsV w v ws T) (hb : Below w.heap.size w w') : WsV w' v ws T := by
  obtain ⟨N, o, e, h1, h2, h3⟩ := h
  exact ⟨N, o, e, Nat.lt_of_lt_of_le h1 hb.size, h2, fun i x hx => (hb.cell (p := ⟨N, o + i, none⟩) h1).trans (h3 i x hx)⟩
def fdZ : Array Value := #[.int .i64 0, .int .u32 0, .string ⟨#[]⟩, .int .i64 0]
/-- the boxes of Parse: the result, the words, the finding, whether all is well -/
structure St (w0 : World) (r0 wb fb ob : Nat) (ws : List (List UInt8)) (ok : Bool) (f : Fd) (w : World) : Prop where
  hr : w.heap[r0]? = some (.cells fdZ 25 (0, 0))
  hw : ∃ v, w.heap[wb]? = some (.cells #[v] 66 (0, 0)) ∧ WsV w v ws (fun b => b = r0 ∨ b = wb ∨ b = fb ∨ b = ob)
  hf : w.heap[fb]? = some (.cells (fdV f) 25 (0, 0))
  ho : w.heap[ob]? = some (.cells #[.bool ok] 4 (0, 0))
  bl : Below w0.heap.size w0 w
  gw : Gw w
  d : wb ≠ r0 ∧ fb ≠ r0 ∧ ob ≠ r0 ∧ fb ≠ wb ∧ ob ≠ wb ∧ ob ≠ fb
  ge : w0.heap.size ≤ r0 ∧ w0.heap.size ≤ wb ∧ w0.heap.size ≤ fb ∧ w0.heap.size ≤ ob
section
variable {w0 w w' : World} {r0 wb fb ob : Nat} {ws : List (List UInt8)} {ok : Bool} {f : Fd}
theorem St.below (h : St w0 r0 wb fb ob ws ok f w) (hb : Below w.heap.size w w') : St w0 r0 wb fb ob ws ok f w' where
  hr := (hb.block _ (lt_of_block h.hr)).trans h.hr
  hw := by obtain ⟨v, h1, h2⟩ := h.hw; exact ⟨v, (hb.block _ (lt_of_block h1)).trans h1, h2.below hb⟩
  hf := (hb.block _ (lt_of_block h.hf)).trans h.hf
  ho := (hb.block _ (lt_of_block h.ho)).trans h.ho
  bl := h.bl.trans (hb.mono h.bl.size)
  gw := h.gw.below hb
  d := h.d
  ge := h.ge
theorem gw_grown {b : Nat} (h : Gw w) (hg : w.grownBy w' (some b)) (hb : 8 ≤ b) (ht : Lib.TabIs Tryz.prog w' "internal/strconv.uint64pow10" .u64 Lib.pow10Tab) : Gw w' where
  lt := Nat.le_trans h.lt hg.size
  ml := by obtain ⟨m, q⟩ := h.ml; exact ⟨m, hg.cell q (fun e => by injection e with e; simp only at e; omega)⟩
  es := by obtain ⟨m, p, q⟩ := h.es; exact ⟨m, p, hg.cell q (fun e => by injection e with e; simp only at e; omega)⟩
  er := by obtain ⟨m, p, q⟩ := h.er; exact ⟨m, p, hg.cell q (fun e => by injection e with e; simp only at e; omega)⟩
  tb := ht
theorem below_grown0 {b : Nat} (hb : Below w0.heap.size w0 w) (hg : w.grownBy w' (some b)) (hn : w0.heap.size ≤ b) : Below w0.heap.size w0 w' := hb.grown hg hb.size (fun j q => by injection q with q; omega)
/-- a cell of the three boxes is written: given what was so of the world ahead of them -/
theorem St.set_ok (h : St w0 r0 wb fb ob ws ok f w) (hg0 : Gw w0) (q : Bool) : St w0 r0 wb fb ob ws q f (w.setCell ⟨ob, 0, none⟩ (.bool q)) := by
  have hg := set_grown w ob 0 (.bool q)
  have hb := below_grown0 h.bl hg h.ge.2.2.2
  refine ⟨(hg.block _ (lt_of_block h.hr) (fun e => by injection e with e; exact h.d.2.2.1 e.symm)).trans h.hr, ?_, (hg.block _ (lt_of_block h.hf) (fun e => by injection e with e; exact h.d.2.2.2.2.2 e.symm)).trans h.hf, ?_, hb, hg0.below hb, h.d, h.ge⟩
  · obtain ⟨v, h1, h2⟩ := h.hw
    exact ⟨v, (hg.block _ (lt_of_block h1) (fun e => by injection e with e; exact h.d.2.2.2.2.1 e.symm)).trans h1, h2.grown hg (.inr (.inr (.inr rfl)))⟩
  · rw [heap_setCell_same w ob 0 _ 4 _ h.ho]
    rfl
theorem St.set_ws (h : St w0 r0 wb fb ob ws ok f w) (hg0 : Gw w0) (v : Value) (ws' : List (List UInt8)) (hv : WsV w v ws' (fun b => b = r0 ∨ b = wb ∨ b = fb ∨ b = ob)) : St w0 r0 wb fb ob ws' ok f (w.setCell ⟨wb, 0, none⟩ v) := by
  have hg := set_grown w wb 0 v
  have hb := below_grown0 h.bl hg h.ge.2.1
  obtain ⟨v0, h1, _⟩ := h.hw
  refine ⟨(hg.block _ (lt_of_block h.hr) (fun e => by injection e with e; exact h.d.1 e.symm)).trans h.hr, ⟨v, ?_, hv.grown hg (.inr (.inl rfl))⟩, (hg.block _ (lt_of_block h.hf) (fun e => by injection e with e; exact h.d.2.2.2.1 e)).trans h.hf, (hg.block _ (lt_of_block h.ho) (fun e => by injection e with e; exact h.d.2.2.2.2.1 e)).trans h.ho, hb, hg0.below hb, h.d, h.ge⟩
  rw [heap_setCell_same w wb 0 _ 66 _ h1]
  rfl
theorem St.set_f (h : St w0 r0 wb fb ob ws ok f w) (hg0 : Gw w0) (i : Nat) (v : Value) (f' : Fd) (hv : (fdV f).setIfInBounds i v = fdV f') : St w0 r0 wb fb ob ws ok f' (w.setCell ⟨fb, i, none⟩ v) := by
  have hg := set_grown w fb i v
  have hb := below_grown0 h.bl hg h.ge.2.2.1
  refine ⟨(hg.block _ (lt_of_block h.hr) (fun e => by injection e with e; exact h.d.2.1 e.symm)).trans h.hr, ?_, ?_, (hg.block _ (lt_of_block h.ho) (fun e => by injection e with e; exact h.d.2.2.2.2.2 e)).trans h.ho, hb, hg0.below hb, h.d, h.ge⟩
  · obtain ⟨v, h1, h2⟩ := h.hw
    exact ⟨v, (hg.block _ (lt_of_block h1) (fun e => by injection e with e; exact h.d.2.2.2.1 e.symm)).trans h1, h2.grown hg (.inr (.inr (.inl rfl)))⟩
  · rw [heap_setCell_same w fb i _ 25 _ h.hf, hv]
theorem St.co (h : St w0 r0 wb fb ob ws ok f w) : w.cell? ⟨ob, 0, none⟩ = some (.bool ok) := cell_of_row w ob 0 _ 4 (0, 0) h.ho
theorem St.zo (h : St w0 r0 wb fb ob ws ok f w) : w.frozen? ⟨ob, 0, none⟩ = false := frozen_of_row w ob 0 _ 4 h.ho
theorem St.zf (h : St w0 r0 wb fb ob ws ok f w) (i : Nat) : w.frozen? ⟨fb, i, none⟩ = false := frozen_of_row w fb i _ 25 h.hf
theorem St.cf (h : St w0 r0 wb fb ob ws ok f w) : cellsF fb f.k f.id f.nm f.at_ w := ⟨cell_of_row w fb 0 _ 25 (0, 0) h.hf, cell_of_row w fb 1 _ 25 (0, 0) h.hf, cell_of_row w fb 2 _ 25 (0, 0) h.hf, cell_of_row w fb 3 _ 25 (0, 0) h.hf⟩
end
/-- what a word is, and what is left -/
def NextPost (w0 : World) (r0 wb fb ob : Nat) (ws : List (List UInt8)) (ok : Bool) (f : Fd) (e : Ending) (w' : World) : Prop := ∃ x ok' ws', e = .returned (.string (str x)) ∧ x.length ≤ 1000000 ∧ St w0 r0 wb fb ob ws' ok' f w' ∧ ((ws = [] ∧ ok' = false ∧ ws' = []) ∨ (ws = x :: ws' ∧ ok' = ok))
set_option maxHeartbeats 1000000 in
theorem next38 {w0 w : World} {r0 wb fb ob : Nat} {ws : List (List UInt8)} {ok : Bool} {f : Fd} (h : St w0 r0 wb fb ob ws ok f w) (hg0 : Gw w0) (hl : ∀ x ∈ ws, x.length ≤ 1000000) (hn : ws.length ≤ 1000000) : Calls Tryz.prog 38 #[.pointer (some ⟨wb, 0, none⟩), .pointer (some ⟨ob, 0, none⟩)] w (NextPost w0 r0 wb fb ob ws ok f) := by
  obtain ⟨v, hw, hv⟩ := h.hw
  have cw := cell_of_row w wb 0 _ 66 (0, 0) hw
  have zw := frozen_of_row w wb 0 _ 66 hw
  have co := h.co
  have zo := h.zo
  obtain ⟨N, o, rfl, hN, hT, hc⟩ := hv
  cases ws with
  | nil =>
    have HS := Lib.hid (h.set_ok hg0 false)
    have HP : Hid (NextPost w0 r0 wb fb ob [] ok f (.returned (.string ⟨#[]⟩)) (w.setCell ⟨ob, 0, none⟩ (.bool false))) := Lib.hid ⟨[], false, [], rfl, Nat.zero_le _, HS.out, .inl ⟨rfl, rfl, rfl⟩⟩
    clear h hl hw hN hT hc HS
    simp only [List.length_nil] at cw
    go_enter Tryz.func38, Tryz.ntmps38
    go_wp2_with fail
    go_ret
    exact HP.out
  | cons x r =>
    have c0 := hc 0 x rfl
    rw [Nat.add_zero] at c0
    have hx := hl x (List.mem_cons_self ..)
    obtain ⟨n, hnn⟩ : ∃ n, n = r.length := ⟨_, rfl⟩
    have hlen : (x :: r).length = n + 1 := by rw [hnn]; rfl
    rw [hlen] at cw hn
    have n0 : ¬ ((n : Int) + 1) = 0 := by omega
    have n1 : (1 : Int) ≤ (n : Int) + 1 := by omega
    have n2 : (0 : Int) < (n : Int) + 1 := by omega
    have n3 : ((n + 1 : Nat) == 0) = false := rfl
    have HV : Hid (∀ A, (r ≠ [] → A = o + 1) → WsV w (.slice (some ⟨N, A, none⟩) n n) r (fun b => b = r0 ∨ b = wb ∨ b = fb ∨ b = ob)) := Lib.hid (fun A hA => ⟨N, A, by rw [hnn], hN, hT, fun i y hy => by
      have hne : r ≠ [] := fun q => by rw [q] at hy; cases hy
      rw [hA hne]
      have := hc (i + 1) y hy
      rwa [Nat.add_assoc, Nat.add_comm 1 i]⟩)
    have HH := Lib.hid h
    have HP : Hid (∀ A, (r ≠ [] → A = o + 1) → NextPost w0 r0 wb fb ob (x :: r) ok f (.returned (.string (str x))) (w.setCell ⟨wb, 0, none⟩ (.slice (some ⟨N, A, none⟩) n n))) := Lib.hid (fun A hA => ⟨x, ok, r, rfl, hx, HH.out.set_ws hg0 _ r (HV.out A hA), .inr ⟨rfl, rfl⟩⟩)
    by_cases hr : n = 0
    · subst hr
      clear h hl hw hN hT hc hlen HV HH
      have hre : r = [] := List.length_eq_zero_iff.1 hnn.symm
      clear hnn
      go_enter Tryz.func38, Tryz.ntmps38
      go_wp2_with fail
      go_ret
      exact HP.out _ (fun q => absurd hre q)
    · have hr1 : (1 : Int) < (n : Int) + 1 := by omega
      have hr2 : ¬ (n : Int) = 0 := by omega
      clear h hl hw hN hT hc hlen HV HH hnn
      go_enter Tryz.func38, Tryz.ntmps38
      go_wp2_with fail
      go_ret
      exact HP.out _ (fun _ => rfl)
end Go.Proofs.YtocfhldmnbmapaaGreatDoor
