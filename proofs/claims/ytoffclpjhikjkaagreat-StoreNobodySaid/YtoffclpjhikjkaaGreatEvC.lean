/- The evaluator is sound: its lemmas, in order. -/
import Derived.Test.YtoffclpjhikjkaaGreatEvB
import Derived.RangeFuncIn
import Derived.OrdersIn
set_option linter.unusedSimpArgs false
set_option linter.unusedVariables false
namespace Go.Proofs.YtoffclpjhikjkaaGreat.Ev
open Go
def oOk (K : Operand → Bool) : Option Operand → Bool
  | some x => K x
  | none => true
section
variable {P : Program} {ρ : Ren} {s s' : St} {w : World} {ev : Operand → Value} {o : Oper} {K : Operand → Bool}
theorem bnd_run (hev : EvOk ρ K s.tm ev) {hi : Option Operand} {y d r : Nat} (h : (bndC hi).f s.tm y d = some r) (hk : oOk K hi = true) :
    (∀ x, hi = some x → r ≤ y ∧ ∀ Y code, y ≤ Y → (Instr.sliceBound (ev x) Y code).run P w = .ok r w) ∧ (hi = none → r = d) := by
  cases hi with
  | none => injection h with h; exact ⟨fun x q => (by cases q), fun _ => h.symm⟩
  | some x =>
    refine ⟨fun x' q => ?_, fun q => by cases q⟩
    injection q with q; subst q
    obtain ⟨h1, h2⟩ := ifB_some.1 h
    injection h2 with h2
    rw [Bool.and_eq_true, Bool.and_eq_true, ble_d, blt_d, decide_eq_true_eq, decide_eq_true_eq] at h1
    obtain ⟨k, hx⟩ := idx_val (hev x hk) h1.1.1 h1.2
    rw [h2] at hx h1
    refine ⟨h1.1.2, fun Y code hY => ?_⟩
    rw [hx]
    unfold Instr.sliceBound
    rw [run_bind, asInt_run]; dsimp only
    rw [if_pos (by omega), Int.toNat_natCast]; rfl
theorem bounds_run (hev : EvOk ρ K s.tm ev) {lo hi : Option Operand} {isS : Bool} {n c cap h l : Nat} (h1 : (bndC hi).f s.tm c n = some h) (h2 : (bndC lo).f s.tm h 0 = some l) (k1 : oOk K lo = true) (k2 : oOk K hi = true) (hc : c ≤ cap) :
    (Instr.sliceBounds isS n cap (lo.map ev) (hi.map ev) none).run P w = .ok (l, h, cap) w ∧ l ≤ h ∧ (n ≤ c → h ≤ c) := by
  obtain ⟨a1, a2⟩ := bnd_run (P := P) (w := w) hev h1 k2
  obtain ⟨b1, b2⟩ := bnd_run (P := P) (w := w) hev h2 k1
  have hl : l ≤ h := by
    cases lo with
    | none => have := b2 rfl; omega
    | some x => exact (b1 x rfl).1
  have hh : n ≤ c → h ≤ c := fun hn => by
    cases hi with
    | none => have := a2 rfl; omega
    | some x => exact (a1 x rfl).1
  refine ⟨?_, hl, hh⟩
  unfold Instr.sliceBounds
  simp only [Option.isSome_none]
  rw [run_bind, run_pure]; dsimp only
  cases hi with
  | none =>
    have := a2 rfl; subst this
    simp only [Option.map_none]
    rw [run_bind, run_pure]; dsimp only
    cases lo with
    | none => have := b2 rfl; subst this; simp only [Option.map_none]; rw [run_bind, run_pure]; rfl
    | some x => simp only [Option.map_some]; rw [run_bind, (b1 x rfl).2 _ _ (Nat.le_refl _)]; rfl
  | some y =>
    simp only [Option.map_some]
    rw [run_bind, (a1 y rfl).2 _ _ hc]; dsimp only
    cases lo with
    | none => have := b2 rfl; subst this; simp only [Option.map_none]; rw [run_bind, run_pure]; rfl
    | some x => simp only [Option.map_some]; rw [run_bind, (b1 x rfl).2 _ _ (Nat.le_refl _)]; rfl
theorem slK_eq {b off z n c : Nat} {k : AV → R1} : slK b off z n c k = k (.sl b (off + z) n c) := by
  unfold slK; rw [seqN_eq, seqN_eq, seqN_eq]
theorem looseE_some {v : AW} {b : Nat} {e : TypeId} {lo : Bool} (h : looseE v b e = some lo) : ∃ cs n e' gp sh f hh, v.bl.get b = some (.cells cs n e' lo gp sh f hh) ∧ (lo = true → e' = e) := by
  obtain ⟨B, h1, h2⟩ := seqO_some.1 h
  cases B with
  | oth o => cases h2
  | cells cs n e' lo' gp sh f hh =>
    obtain ⟨h3, h4⟩ := ifB_some.1 h2
    injection h4 with h4; subst h4
    refine ⟨cs, n, e', gp, sh, f, hh, h1, fun q => ?_⟩
    rw [q, Bool.not_true, Bool.false_or] at h3
    exact (beq_t.1 h3).symm
theorem sl_sound (hW : WR P ρ s.w w) (hev : EvOk ρ K s.tm ev) {t : TypeId} {x : Operand} {lo hi : Option Operand} {a : AV} (ho : o.op = .slice t x lo hi none) (ha : VR ρ a (ev x)) (k1 : oOk K lo = true) (k2 : oOk K hi = true) (h : (slC P t o.dst lo hi).f s a = some s') : Fin P ρ s w ev o s' := by
  have he : execOp ev o = (do pure (Next.value (← Instr.sliceAt t (ev x) (lo.map ev) (hi.map ev) none))) := by unfold execOp; rw [ho]; rfl
  unfold slC at h
  cases hu : P.underlying t with
  | none => rw [hu] at h; cases h
  | some d =>
    rw [hu] at h
    cases d <;> first | (cases h; done) | skip
    case string =>
      obtain ⟨h1, h2⟩ := ifB_some.1 h
      obtain ⟨n, v, rfl, hn, hx⟩ := ha.asStr h1
      obtain ⟨hh, h3, h4⟩ := seqO_some.1 h2
      obtain ⟨l, h5, h6⟩ := seqO_some.1 h4
      rw [strK_eq] at h6
      obtain ⟨q1, q2, q3⟩ := bounds_run (P := P) (w := w) (isS := false) (cap := n) hev h3 h5 k1 k2 (Nat.le_refl _)
      have q3' : hh ≤ n := q3 (Nat.le_refl _)
      refine fin_sound hW h6 (.str _ _ (by omega)) (exec_v he ?_)
      rw [hx]
      unfold Instr.sliceAt
      rw [run_bind, run_underlying hu]; dsimp only
      unfold Instr.slice
      rw [run_bind, run_underlying hu]; dsimp only
      simp only [Option.isSome_none, Bool.false_eq_true, if_false]
      rw [run_bind, sb_size, q1]; dsimp only
      rw [sb_extract _ _ _ _ q2 q3']; rfl
    case slice e =>
      dsimp only at h
      cases hz : sizeOf P e with
      | none => rw [hz] at h; cases h
      | some z =>
        rw [hz] at h
        dsimp only at h
        cases h21 : a.is 21 with
        | true =>
          rw [h21] at h; simp only [cond_true] at h
          obtain ⟨hh, h3, h4⟩ := seqO_some.1 h
          obtain ⟨l, h5, h6⟩ := seqO_some.1 h4
          obtain ⟨q1, q2, q3⟩ := bounds_run (P := P) (w := w) (isS := true) (cap := 0) hev h3 h5 k1 k2 (Nat.le_refl _)
          have q3' := q3 (Nat.le_refl _)
          have hl0 : l = 0 := by omega
          have hh0 : hh = 0 := by omega
          subst hl0; subst hh0
          rcases ha.asNil (by decide) h21 with ⟨q, _⟩ | ⟨_, hx⟩ | ⟨q, _⟩ | ⟨q, _⟩ | ⟨q, _⟩ | ⟨q, _⟩ <;> first | (exact absurd q (by decide)) | skip
          refine fin_sound (y := .slice none 0 0) hW h6 (by rw [← hx]; exact ha) (exec_v he ?_)
          rw [hx]
          unfold Instr.sliceAt
          rw [run_bind, run_underlying hu]; dsimp only
          unfold Instr.slice
          rw [run_bind, run_underlying hu]; dsimp only
          rw [run_bind, q1]; dsimp only
          rw [run_bind, run_sizeOf hz]; rfl
        | false =>
          rw [h21] at h; simp only [cond_false] at h
          obtain ⟨h1, h2⟩ := ifB_some.1 h
          obtain ⟨bl, h3, h4⟩ := seqO_some.1 h2
          obtain ⟨b, q, n, c, t1, rfl, hb, hn, hsl⟩ := ha.asSl h1
          obtain ⟨cs, N, e', gp, sh, f, hh, g1, g2⟩ := looseE_some h3
          obtain ⟨C, fz, g3, g4⟩ := hW.blk _ _ _ g1 hb
          -- how the slice runs
          have hrun : ∀ (p : Option Addr) (cap l hh : Nat), ev x = .slice p n cap → (Instr.sliceBounds true n cap (lo.map ev) (hi.map ev) none).run P w = .ok (l, hh, cap) w →
              (Instr.sliceAt t (ev x) (lo.map ev) (hi.map ev) none).run P w = .ok (.slice (if cap = l then p else p.map (·.add (l * z))) (hh - l) (cap - l)) w := fun p cap l hh hx q1 => by
            rw [hx]
            unfold Instr.sliceAt
            rw [run_bind, run_underlying hu]; dsimp only
            unfold Instr.slice
            rw [run_bind, run_underlying hu]; dsimp only
            rw [run_bind, q1]; dsimp only
            rw [run_bind, run_sizeOf hz]; rfl
          cases bl with
          | true =>
            simp only [cond_true] at h4
            obtain ⟨h5, h6, h7⟩ := seqO_some.1 (show seqO ((bndC hi).f s.tm n n) (fun h => seqO ((bndC lo).f s.tm h 0) fun l => slK b q (l * z) (h - l) 0 fun x => (fin o.dst).f s x) = some s' from h4)
            obtain ⟨l, h8, h9⟩ := seqO_some.1 h7
            rw [slK_eq] at h9
            obtain ⟨st, lim, e1, e2, e3, e4, e5⟩ := g4.lo rfl
            have := g2 rfl; subst this
            rw [hz] at e4; injection e4 with e4; subst e4
            rcases hsl with ⟨e6, _⟩ | ⟨st', lim', e6, ⟨d, d1, d2, hx⟩ | ⟨d1, ad, hx⟩⟩
            · rw [e1] at e6; cases e6
            · rw [e1] at e6; injection e6 with e6; injection e6 with e6 e7; subst e6; subst e7
              obtain ⟨q1, q2, q3⟩ := bounds_run (P := P) (w := w) (isS := true) (cap := d) hev h6 h8 k1 k2 d1
              have q3' := q3 (Nat.le_refl _)
              have hr := hrun _ d l h5 hx q1
              by_cases hdl : d = l
              · have h0 : h5 - l = 0 := by omega
                have h00 : d - l = 0 := by omega
                rw [if_pos hdl, h0, h00] at hr
                rw [h0] at h9
                exact fin_sound hW h9 (.sl0 b _ 0 t1 _ _ hb e1) (exec_v he hr)
              · rw [if_neg hdl] at hr
                refine fin_sound (y := .slice (some ⟨t1.blk, t1.sh + (q + l * z), none⟩) (h5 - l) (d - l)) hW h9 (.slL b _ _ 0 t1 z lim (d - l) hb e1 (by omega) ?_ (by omega)) (exec_v he ?_)
                · have : l * z + (d - l) * z = d * z := by rw [← Nat.add_mul]; congr 1; omega
                  omega
                · rw [hr]
                  simp only [Option.map_some, add_off (show (⟨t1.blk, t1.sh + q, none⟩ : Addr).spot = none from rfl), Nat.add_assoc]
            · subst d1
              obtain ⟨q1, q2, q3⟩ := bounds_run (P := P) (w := w) (isS := true) (cap := 0) hev h6 h8 k1 k2 (Nat.le_refl _)
              have q3' := q3 (Nat.le_refl _)
              have hl0 : l = 0 := by omega
              have hh0 : h5 = 0 := by omega
              subst hl0; subst hh0
              have hr := hrun _ 0 0 0 hx q1
              exact fin_sound hW h9 (.sl0 b _ 0 t1 _ _ hb e1) (exec_v he hr)
          | false =>
            simp only [cond_false] at h4
            obtain ⟨h5, h6, h7⟩ := seqO_some.1 (show seqO ((bndC hi).f s.tm c n) (fun h => seqO ((bndC lo).f s.tm h 0) fun l => ifB (Nat.blt h big) <| slK b q (bif Nat.beq c l then 0 else l * z) (h - l) (c - l) fun x => (fin o.dst).f s x) = some s' from h4)
            obtain ⟨l, h8, h9⟩ := seqO_some.1 h7
            obtain ⟨h10, h9⟩ := ifB_some.1 h9
            rw [blt_d, decide_eq_true_eq] at h10
            rw [slK_eq] at h9
            obtain ⟨e1, e2, e3⟩ := g4.ex rfl
            rcases hsl with ⟨_, hx⟩ | ⟨st', lim', e6, _⟩
            · obtain ⟨q1, q2, q3⟩ := bounds_run (P := P) (w := w) (isS := true) (cap := c) hev h6 h8 k1 k2 (Nat.le_refl _)
              have q3' := q3 (ha.slE_le hb e1)
              have hr := hrun _ c l h5 hx q1
              by_cases hcl : c = l
              · rw [if_pos hcl] at hr
                rw [beq_t.2 hcl] at h9
                exact fin_sound hW h9 (.slE b _ _ _ t1 hb e1 (by omega) (by omega)) (exec_v he hr)
              · rw [if_neg hcl] at hr
                rw [beq_f.2 hcl] at h9
                refine fin_sound (y := .slice (some ⟨t1.blk, t1.sh + (q + l * z), none⟩) (h5 - l) (c - l)) hW h9 (.slE b _ _ _ t1 hb e1 (by omega) (by omega)) (exec_v he ?_)
                rw [hr]
                simp only [Option.map_some, add_off (show (⟨t1.blk, t1.sh + q, none⟩ : Addr).spot = none from rfl), Nat.add_assoc]
            · rw [e1] at e6; cases e6
    case array n e =>
      dsimp only at h
      cases hz : sizeOf P e with
      | none => rw [hz] at h; cases h
      | some z =>
        rw [hz] at h
        obtain ⟨h1, h2⟩ := ifB_some.1 h
        obtain ⟨bl, h3, h4⟩ := seqO_some.1 h2
        obtain ⟨b, q, t1, rfl, hb, hx⟩ := ha.asPtr h1
        obtain ⟨h4', h4⟩ := ifB_some.1 h4
        have hbl : bl = false := by simpa using h4'
        subst hbl
        obtain ⟨B, g0, g1⟩ := seqO_some.1 (show seqO (s.w.bl.get b) _ = some false from h3)
        cases B with
        | oth o => cases g1
        | cells cs N e' lo gp sh f hh =>
          injection g1 with g1; subst g1
          obtain ⟨C, fz, g3, g4⟩ := hW.blk _ _ _ g0 hb
          obtain ⟨e1, e2, e3⟩ := g4.ex rfl
          obtain ⟨h5, h6, h7⟩ := seqO_some.1 (show seqO ((bndC hi).f s.tm n n) (fun h => seqO ((bndC lo).f s.tm h 0) fun l => ifB (Nat.blt h big) <| slK b q (bif Nat.beq n l then 0 else l * z) (h - l) (n - l) fun x => (fin o.dst).f s x) = some s' from h4)
          obtain ⟨l, h8, h9⟩ := seqO_some.1 h7
          obtain ⟨h10, h9⟩ := ifB_some.1 h9
          rw [blt_d, decide_eq_true_eq] at h10
          rw [slK_eq] at h9
          obtain ⟨q1, q2, q3⟩ := bounds_run (P := P) (w := w) (isS := false) (cap := n) hev h6 h8 k1 k2 (Nat.le_refl _)
          have q3' := q3 (Nat.le_refl _)
          have hr : (Instr.sliceAt t (ev x) (lo.map ev) (hi.map ev) none).run P w = .ok (.slice (some (if n = l then ⟨t1.blk, t1.sh + q, none⟩ else (⟨t1.blk, t1.sh + q, none⟩ : Addr).add (l * z))) (h5 - l) (n - l)) w := by
            rw [hx]
            unfold Instr.sliceAt
            rw [run_bind, run_underlying hu]; dsimp only
            have e1 : (Instr.sureAddr (.pointer (some ⟨t1.blk, t1.sh + q, none⟩))).run P w = .ok ⟨t1.blk, t1.sh + q, none⟩ w := rfl
            rw [run_bind, e1]; dsimp only
            rw [run_bind, q1]; dsimp only
            rw [run_bind, run_sizeOf hz]; rfl
          by_cases hcl : n = l
          · rw [if_pos hcl] at hr
            rw [beq_t.2 hcl] at h9
            exact fin_sound hW h9 (.slE b _ _ _ t1 hb e1 (by omega) (by omega)) (exec_v he hr)
          · rw [if_neg hcl] at hr
            rw [beq_f.2 hcl] at h9
            refine fin_sound (y := .slice (some ⟨t1.blk, t1.sh + (q + l * z), none⟩) (h5 - l) (n - l)) hW h9 (.slE b _ _ _ t1 hb e1 (by omega) (by omega)) (exec_v he ?_)
            rw [hr]
            simp only [add_off (show (⟨t1.blk, t1.sh + q, none⟩ : Addr).spot = none from rfl), Nat.add_assoc]
end
end Go.Proofs.YtoffclpjhikjkaaGreat.Ev
namespace Go.Proofs.YtoffclpjhikjkaaGreat.Ev
open Go
theorem growBy_le (N c : Nat) (h : c < 1000000000) (hN : N ≤ 1000000000) : Builtin.growBy N 4 c ≤ 4000000000 := by
  unfold Builtin.growBy
  split
  · omega
  · unfold Builtin.growBy
    split
    · omega
    · unfold Builtin.growBy
      split
      · omega
      · unfold Builtin.growBy
        split
        · omega
        · unfold Builtin.growBy; omega
theorem next_le (N c : Nat) (h : c < N) (hN : N ≤ 1000000000) : Builtin.nextslicecap N c ≤ 4000000000 := by
  unfold Builtin.nextslicecap
  split
  · omega
  · split
    · omega
    · exact growBy_le N c (by omega) hN
section
variable {P : Program} {ρ : Ren} {s s' : St} {w : World} {ev : Operand → Value} {o : Oper} {nt : Nat}
theorem len_run {u : AV} {x : Value} {m : Nat} (hu : VR ρ u x) (h : lenV u = some m) (w : World) : (Builtin.lenOf x).run P w = .ok m w ∧ m < big := by
  unfold lenV at h
  cases h5 : u.is 5 with
  | true =>
    rw [h5] at h; simp only [cond_true] at h; injection h with h
    obtain ⟨b, q, n, c, t, rfl, hb, hn, hh⟩ := hu.asSl h5
    dsimp only at h; subst h
    rcases hh with ⟨_, rfl⟩ | ⟨_, _, _, ⟨_, _, _, rfl⟩ | ⟨rfl, _, rfl⟩⟩ <;> exact ⟨rfl, hn⟩
  | false =>
    rw [h5] at h; simp only [cond_false] at h
    cases h21 : u.is 21 with
    | true =>
      rw [h21] at h; simp only [cond_true] at h; injection h with h; subst h
      rcases hu.asNil (by decide) h21 with ⟨q, _⟩ | ⟨_, rfl⟩ | ⟨q, _⟩ | ⟨q, _⟩ | ⟨q, _⟩ | ⟨q, _⟩ <;> first | (exact absurd q (by decide)) | exact ⟨rfl, by decide⟩
    | false =>
      rw [h21] at h; simp only [cond_false] at h
      obtain ⟨h2, h⟩ := ifB_some.1 h; injection h with h
      obtain ⟨n, v, rfl, hn, rfl⟩ := hu.asStr h2
      dsimp only at h; subst h
      refine ⟨?_, hn⟩
      show Result.ok (sb n v).size w = _
      rw [sb_size]
theorem loadCells_zero {a : Addr} (w : World) : (loadCells a 0).run P w = .ok #[] w := rfl
/-- what is appended, or copied -/
theorem src_run {v : AW} (hW : WR P ρ v w) {u : AV} {x : Value} {z m k : Nat} {new : List AV} (hu : VR ρ u x) (hl : lenV u = some k) (hm : m ≤ k) (h : srcV v z m u = some new) : ∃ ys, (∀ w1 : World, w1.heap = w.heap → (Builtin.firstCells z m x).run P w1 = .ok ys w1) ∧ VRs ρ new ys.toList ∧ (∀ y ∈ ys, one y = true) ∧ new.length = m * z := by
  unfold srcV at h
  unfold lenV at hl
  cases h5 : u.is 5 with
  | true =>
    rw [h5] at h hl; simp only [cond_true] at h hl; injection hl with hl
    obtain ⟨b, q, n, c, t, rfl, hb, hn, hh⟩ := hu.asSl h5
    dsimp only at h hl; subst hl
    obtain ⟨C, e, fz, g1, g2, g3, g4⟩ := cellsAt_run hW h hb
    have hlen : new.length = m * z := by rw [g3.length]; simp; omega
    have key : ∀ d, x = .slice (some ⟨t.blk, t.sh + q, none⟩) n d → ∃ ys, (∀ w1 : World, w1.heap = w.heap → (Builtin.firstCells z m x).run P w1 = .ok ys w1) ∧ VRs ρ new ys.toList ∧ (∀ y ∈ ys, one y = true) ∧ new.length = m * z := fun d hx => by
      refine ⟨((C.toList.drop (t.sh + q)).take (m * z)).toArray, fun w1 hw1 => ?_, by simpa using g3, fun y hy => g4 y (by simpa using hy), hlen⟩
      rw [hx]
      exact run_loadCells (a := ⟨t.blk, t.sh + q, none⟩) rfl (by rw [hw1]; exact g1) (m * z) (by dsimp only; omega)
    rcases hh with ⟨_, hx⟩ | ⟨_, _, _, ⟨_, _, _, hx⟩ | ⟨h0, ad, hx⟩⟩
    · exact key _ hx
    · exact key _ hx
    · subst h0
      have hm0 : m = 0 := by omega
      subst hm0
      have hn0 : new = [] := by
        rw [Nat.zero_mul] at hlen; exact List.eq_nil_of_length_eq_zero hlen
      subst hn0
      refine ⟨#[], fun w1 _ => ?_, .nil, by simp, by simp⟩
      rw [hx]
      show (loadCells ad (0 * z)).run P w1 = _
      rw [Nat.zero_mul]; exact loadCells_zero w1
  | false =>
    rw [h5] at h hl; simp only [cond_false] at h hl
    cases h21 : u.is 21 with
    | true =>
      rw [h21] at h hl; simp only [cond_true] at h hl; injection h with h; injection hl with hl; subst h; subst hl
      have hm0 : m = 0 := by omega
      subst hm0
      rcases hu.asNil (by decide) h21 with ⟨q, _⟩ | ⟨_, rfl⟩ | ⟨q, _⟩ | ⟨q, _⟩ | ⟨q, _⟩ | ⟨q, _⟩ <;> first | (exact absurd q (by decide)) | exact ⟨#[], fun _ _ => rfl, .nil, by simp, by simp⟩
    | false =>
      rw [h21] at h hl; simp only [cond_false] at h hl
      obtain ⟨h2, h⟩ := ifB_some.1 h; injection h with h; subst h
      rw [Bool.and_eq_true, Bool.and_eq_true, ble_d, decide_eq_true_eq, beq_t] at h2
      obtain ⟨h2, h3, rfl⟩ := h2
      obtain ⟨n, v', rfl, hn, rfl⟩ := hu.asStr h2
      dsimp only at h3 ⊢
      refine ⟨((sb m v').data.map fun b => Value.int .u8 b.toNat), fun w1 _ => ?_, str8_vr m v', fun y hy => ?_, by unfold str8; rw [List.length_map, bytes_len, Nat.mul_one]⟩
      · show Result.ok ((((sb n v').extract 0 m).data.map fun b => Value.int .u8 b.toNat)) w1 = _
        rw [sb_extract n v' 0 m (Nat.zero_le _) h3]
        simp only [Nat.sub_zero, Nat.pow_zero, Nat.div_one]
        have : sb m (v' % 256 ^ m) = sb m v' := sb_mod m v'
        rw [this]
      · obtain ⟨b, _, rfl⟩ := Array.mem_map.1 hy; rfl
theorem run_room (n : Nat) (w : World) : (askRoom n).run P w = .ok () w := by unfold askRoom; split <;> rfl
/-- append, in place -/
theorem ap_in {ts : Array TypeId} {ty t u e : TypeId} {du : TypeDesc} {z n m cap : Nat} {base : Option Addr} {y : Value} {ys : Array Value} {w' : World} (h0 : ts[0]? = some t) (h1 : ts[1]? = some u) (ht : P.underlying t = some (.slice e)) (hu : P.underlying u = some du) (hi : ∀ k, du ≠ .int k) (hz : sizeOf P e = some z)
    (hl : (Builtin.lenOf y).run P w = .ok m w) (hle : n + m ≤ cap) (hf : (Builtin.firstCells z m y).run P w = .ok ys w) (hs : ∀ a, base = some a → (storeCells (a.add (n * z)) ys.toList).run P w = .ok () w') (hb : base = none → w' = w) :
    (Builtin.append_ ts ty #[.slice base n cap, y]).run P w = .ok (.slice base (n + m) cap) w' := by
  unfold Builtin.append_
  simp only [h0, h1, List.getElem?_toArray, List.getElem?_cons_zero, List.getElem?_cons_succ]
  rw [run_bind, run_underlying ht]; dsimp only
  rw [run_bind, run_sizeOf hz]; dsimp only
  rw [run_bind, run_underlying hu]; dsimp only
  have hz2 : (match du with | .int _ => true | _ => false) = false := by cases du <;> first | rfl | (exact absurd rfl (hi _))
  rw [run_bind, run_pure]; dsimp only
  simp only [Bool.false_eq_true, if_false, Bool.not_false, if_true]
  rw [run_bind, hl]; dsimp only
  rw [if_pos hle, run_bind, hf]; dsimp only
  cases base with
  | none => rw [hb rfl]; rfl
  | some a => dsimp only; rw [run_bind, hs a rfl]; rfl
/-- append, anew -/
theorem ap_new {ts : Array TypeId} {ty t u e : TypeId} {du : TypeDesc} {z n m cap k : Nat} {base : Option Addr} {y zv : Value} {old ys : Array Value} (h0 : ts[0]? = some t) (h1 : ts[1]? = some u) (ht : P.underlying t = some (.slice e)) (hu : P.underlying u = some du) (hi : ∀ k, du ≠ .int k) (hz : sizeOf P e = some z)
    (hk : bytesOf P e = some k) (hk1 : k < 65536) (hk0 : 0 < k) (hzv : ∀ w, (zeroValue e).run P w = .ok zv w) (hl : (Builtin.lenOf y).run P w = .ok m w) (hle : ¬ n + m ≤ cap) (hnm : n + m < 1000000000)
    (hf : ∀ w1 : World, w1.heap = w.heap → (Builtin.firstCells z m y).run P w1 = .ok ys w1) (ho : ∀ w1 : World, w1.heap = w.heap → (Builtin.firstCells z n (.slice base n cap)).run P w1 = .ok old w1) :
    ∃ c w', n + m ≤ c ∧ (Builtin.append_ ts ty #[.slice base n cap, y]).run P w = .ok (.slice (some ⟨w.heap.size, 0, none⟩) (n + m) c) w' ∧ w'.heap = w.heap.push (.cells (old ++ ys ++ Builtin.zeroCells zv.cells (c - (n + m))) e) ∧ w'.os = w.os ∧ w'.tape = w.tape ∧ w'.output = w.output := by
  obtain ⟨c, w1, c1, c2, c3, c4, c5, c6⟩ := run_choose_cap (P := P) (n + m) cap e w
  obtain ⟨i, hi1, hi2⟩ := Option.map_eq_some_iff.1 hk
  refine ⟨c, { w1 with heap := w1.heap.push (.cells (old ++ ys ++ Builtin.zeroCells zv.cells (c - (n + m))) e) }, c2, ?_, by rw [c3], c4, c5, c6⟩
  unfold Builtin.append_
  simp only [h0, h1, List.getElem?_toArray, List.getElem?_cons_zero, List.getElem?_cons_succ]
  rw [run_bind, run_underlying ht]; dsimp only
  rw [run_bind, run_sizeOf hz]; dsimp only
  rw [run_bind, run_underlying hu]; dsimp only
  have hz2 : (match du with | .int _ => true | _ => false) = false := by cases du <;> first | rfl | (exact absurd rfl (hi _))
  rw [run_bind, run_pure]; dsimp only
  simp only [Bool.false_eq_true, if_false, Bool.not_false, if_true, false_or]
  rw [run_bind, hl]; dsimp only
  rw [if_neg hle, run_bind, run_typeInfo hi1]; dsimp only
  have n1 : ¬ ((((n + m : Nat) : Int) > IntKind.i64.max) ∧ (i.bytes = 0)) := fun q => by
    have := q.2; omega
  rw [if_neg n1]
  rw [run_bind, run_typeInfo hi1]; dsimp only
  have n2 : ¬ (Builtin.nextslicecap (n + m) cap * i.bytes > 2 ^ 48) := by
    have h1 := next_le (n + m) cap (by omega) (by omega)
    have h2 : Builtin.nextslicecap (n + m) cap * i.bytes ≤ 4000000000 * 65536 := Nat.mul_le_mul h1 (by omega)
    have : (4000000000 * 65536 : Nat) ≤ 2 ^ 48 := by decide
    omega
  rw [if_neg n2]
  rw [run_bind, c1]; dsimp only
  rw [run_bind, run_typeInfo hi1]; dsimp only
  rw [run_bind, run_room]; dsimp only
  rw [run_bind, ho w1 c3]; dsimp only
  rw [run_bind, hf w1 c3]; dsimp only
  rw [run_bind, hzv]; dsimp only
  rw [run_bind, run_newRow]; dsimp only
  rw [run_pure, c3]
end
end Go.Proofs.YtoffclpjhikjkaaGreat.Ev
namespace Go.Proofs.YtoffclpjhikjkaaGreat.Ev
open Go
section
variable {P : Program} {ρ : Ren} {s s' : St} {w : World} {ev : Operand → Value} {o : Oper} {nt : Nat}
theorem zeroCells_size (zv : Array Value) (n : Nat) : (Builtin.zeroCells zv n).size = n * zv.size := by
  unfold Builtin.zeroCells; simp
/-- a new row of unknown capacity -/
theorem apRow_vr {v v' : AW} (hW : WR P ρ v w) {e z N c : Nat} {cs : List AV} {r : AV} (h : apRow v e N cs = some (r, v')) {C R : Array Value} {w' : World} (hsz : sizeOf P e = some z) (hz0 : 0 < z) (hv : VRs ρ cs C.toList) (ho : ∀ y ∈ C, one y = true) (hC : C.size = N * z) (hc : N ≤ c) (hR : R.size = (c - N) * z) (hN : N < big)
    (hw : w'.heap = w.heap.push (.cells (C ++ R) e)) (h1 : w'.os = w.os) (h2 : w'.tape = w.tape) (h3 : w'.output = w.output) :
    ∃ σ, VR σ r (.slice (some ⟨w.heap.size, 0, none⟩) N c) ∧ WR P σ v' w' ∧ Stp ρ v w σ v' w' := by
  unfold apRow at h
  obtain ⟨b, v1, hb, h4⟩ := seqP_some.1 h
  injection h4 with h4; injection h4 with h4 h5
  subst h4; subst h5
  have hl : cs.length = C.size := by have := hv.length; simpa using this
  have hsize : (C ++ R).size = c * z := by
    rw [Array.size_append, hC, hR, ← Nat.add_mul, Nat.add_sub_cancel' hc]
  obtain ⟨k1, k2, k3, k4⟩ := row_add (st := z) (C := C ++ R) hW hb (fz := (0, 0)) rfl hw h1 h2 h3 (fun i x hx => by
    obtain ⟨y, q1, q2⟩ := hv.get hx
    have q3 : C[i]? = some y := by simpa using q1
    have q4 : i < C.size := by
      cases Nat.lt_or_ge i C.size with
      | inl q => exact q
      | inr q => rw [Array.getElem?_eq_none q] at q3; cases q3
    exact ⟨y, by rw [Array.getElem?_append_left q4]; exact q3, q2, ho y (Array.mem_of_getElem? q3)⟩) (fun q => by cases q) (fun _ => ⟨hsz, hz0, by rw [hl, Array.size_append]; omega⟩)
  subst k1
  refine ⟨_, ?_, k3, k4⟩
  have hent : (ρ.add v.nx ⟨w.heap.size, 0, some (z, (C ++ R).size)⟩) v.nx = some ⟨w.heap.size, 0, some (z, (C ++ R).size)⟩ := by
    unfold Ren.add; simp
  exact VR.slL v.nx 0 N 0 _ z _ c hent rfl hc (by rw [hsize]; omega) hN
/-- nothing is appended -/
theorem first0 {u : AV} {x : Value} (hu : VR ρ u x) (hl : lenV u = some 0) (z : Nat) (w : World) : (Builtin.firstCells z 0 x).run P w = .ok #[] w := by
  unfold lenV at hl
  cases h5 : u.is 5 with
  | true =>
    obtain ⟨b, q, n, c, t, rfl, hb, hn, hh⟩ := hu.asSl h5
    have key : ∀ a n d, x = .slice (some a) n d → (Builtin.firstCells z 0 x).run P w = .ok #[] w := fun a n d hx => by
      rw [hx]; show (loadCells a (0 * z)).run P w = _
      rw [Nat.zero_mul]; exact loadCells_zero w
    rcases hh with ⟨_, hx⟩ | ⟨_, _, _, ⟨_, _, _, hx⟩ | ⟨_, ad, hx⟩⟩ <;> exact key _ _ _ hx
  | false =>
    rw [h5] at hl; simp only [cond_false] at hl
    cases h21 : u.is 21 with
    | true => rcases hu.asNil (by decide) h21 with ⟨q, _⟩ | ⟨_, rfl⟩ | ⟨q, _⟩ | ⟨q, _⟩ | ⟨q, _⟩ | ⟨q, _⟩ <;> first | (exact absurd q (by decide)) | rfl
    | false =>
      rw [h21] at hl; simp only [cond_false] at hl
      obtain ⟨h2, hl⟩ := ifB_some.1 hl
      obtain ⟨n, v', rfl, hn, rfl⟩ := hu.asStr h2
      show Result.ok ((((sb n v').extract 0 0).data.map fun b => Value.int .u8 b.toNat)) w = _
      have : ((sb n v').extract 0 0).data = #[] := by simp
      rw [this]; simp
/-- what append comes to -/
def ApR (P : Program) (ρ : Ren) (v : AW) (w : World) (ts : Array TypeId) (ty : TypeId) (x y : Value) (r : AV) (v' : AW) : Prop :=
  ∃ σ a w', (Builtin.append_ ts ty #[x, y]).run P w = .ok a w' ∧ VR σ r a ∧ WR P σ v' w' ∧ Stp ρ v w σ v' w'
theorem ap_zero {v : AW} (hW : WR P ρ v w) {a : AV} {x y : Value} {n : Nat} (ha : VR ρ a x) (hsl : a.is 5 = true ∨ a.is 21 = true) {u : AV} (hu : VR ρ u y) (hn : lenV a = some n) (hm : lenV u = some 0) {ts : Array TypeId} {ty t uu e : TypeId} {du : TypeDesc} {z : Nat} (h0 : ts[0]? = some t) (h1 : ts[1]? = some uu) (ht : P.underlying t = some (.slice e)) (hu2 : P.underlying uu = some du) (hi : ∀ k, du ≠ .int k) (hz : sizeOf P e = some z) :
    ApR P ρ v w ts ty x y a v := by
  have key : ∀ base n cap, x = .slice base n cap → n ≤ cap → ApR P ρ v w ts ty x y a v := fun base n cap hx hle => by
    subst hx
    refine ⟨ρ, _, w, ap_in h0 h1 ht hu2 hi hz (len_run hu hm w).1 (m := 0) (by omega) (first0 hu hm z w) (w' := w) (fun a _ => rfl) (fun _ => rfl), ?_, hW, Stp.refl _ _ _⟩
    exact ha
  rcases hsl with h5 | h21
  · obtain ⟨b, q, n, c, t, rfl, hb, hn, hh⟩ := ha.asSl h5
    rcases hh with ⟨_, hx⟩ | ⟨_, _, _, ⟨_, k, _, hx⟩ | ⟨h0, ad, hx⟩⟩
    · cases ha with
      | slE _ _ _ _ _ _ _ _ k => exact key _ _ _ rfl k
      | slL _ _ _ _ _ _ _ _ _ _ k => exact key _ _ _ rfl k
      | sl0 => exact key _ _ _ rfl (Nat.le_refl _)
    · exact key _ _ _ hx k
    · exact key _ _ _ hx (Nat.le_refl _)
  · rcases ha.asNil (by decide) h21 with ⟨q, _⟩ | ⟨_, rfl⟩ | ⟨q, _⟩ | ⟨q, _⟩ | ⟨q, _⟩ | ⟨q, _⟩ <;> first | (exact absurd q (by decide)) | exact key _ _ _ rfl (Nat.le_refl _)
theorem zl_run {e : TypeId} {z : Nat} (h : zlOk P e z = true) : ∃ zv, (∀ w, (zeroValue e).run P w = .ok zv w) ∧ zv.cells.size = z := by
  unfold zlOk at h
  cases hz : zero P e with
  | none => rw [hz] at h; cases h
  | some y =>
    rw [hz] at h
    simp only [Option.bind_some] at h
    cases hc : y.cells with
    | none => rw [hc] at h; cases h
    | some l =>
      rw [hc] at h
      have hl := beq_t.1 h
      unfold zero at hz
      cases hi : P.info? e with
      | none => rw [hi] at hz; cases hz
      | some it =>
        rw [hi] at hz
        obtain ⟨zv, k1, k2⟩ := Option.map_eq_some_iff.1 hz
        have hr : ∀ w, (zeroValue e).run P w = .ok zv w := fun w => by
          show (typeInfo e >>= fun i => match i.zero with | some v => pure v | none => unsupported (.resourceLimit "a value of more than 2^22 cells")).run P w = _
          rw [run_bind, run_typeInfo hi]; dsimp only; rw [k1]; rfl
        have hv : VR (fun _ => none) y zv := by rw [← k2]; exact ofV_vr 4 zv
        obtain ⟨k3, k4⟩ := cells_vr hv hc
        exact ⟨zv, hr, by have := k3.length; simp only [Array.length_toList] at this; omega⟩
/-- anew, as a row of its own -/
theorem ap_anew {v v' : AW} (hW : WR P ρ v w) {r : AV} {y : Value} {ts : Array TypeId} {ty t uu e : TypeId} {du : TypeDesc} {z k n m cap : Nat} {base : Option Addr} {u : AV} (hu : VR ρ u y) (hm : lenV u = some m) (h0 : ts[0]? = some t) (h1 : ts[1]? = some uu) (ht : P.underlying t = some (.slice e)) (hu2 : P.underlying uu = some du) (hi : ∀ k, du ≠ .int k) (hz : sizeOf P e = some z)
    (hz0 : 0 < z) (hk : bytesOf P e = some k) (hk1 : k < 65536) (hk0 : 0 < k) (hzl : zlOk P e z = true) (hle : ¬ n + m ≤ cap) (hnm : n + m < 1000000000) {old new : List AV}
    (hold : ∃ xs, (∀ w1 : World, w1.heap = w.heap → (Builtin.firstCells z n (.slice base n cap)).run P w1 = .ok xs w1) ∧ VRs ρ old xs.toList ∧ (∀ y ∈ xs, one y = true) ∧ old.length = n * z)
    (hnew : ∃ xs, (∀ w1 : World, w1.heap = w.heap → (Builtin.firstCells z m y).run P w1 = .ok xs w1) ∧ VRs ρ new xs.toList ∧ (∀ y ∈ xs, one y = true) ∧ new.length = m * z)
    (h : apRow v e (n + m) (old ++ new) = some (r, v')) : ApR P ρ v w ts ty (.slice base n cap) y r v' := by
  obtain ⟨xs, x1, x2, x3, x4⟩ := hold
  obtain ⟨ys, y1, y2, y3, y4⟩ := hnew
  obtain ⟨zv, z1, z2⟩ := zl_run (P := P) hzl
  obtain ⟨c, w', c1, c2, c3, c4, c5, c6⟩ := ap_new (ty := ty) (base := base) h0 h1 ht hu2 hi hz hk hk1 hk0 z1 (len_run hu hm w).1 hle hnm y1 x1
  have l1 := x2.length
  have l2 := y2.length
  simp only [Array.length_toList] at l1 l2
  obtain ⟨σ, q1, q2, q3⟩ := apRow_vr (C := xs ++ ys) (c := c) hW h hz hz0 (by rw [Array.toList_append]; exact x2.append y2) (fun y hy => by
    rcases Array.mem_append.1 hy with q | q
    · exact x3 _ q
    · exact y3 _ q) (by rw [Array.size_append, ← l1, ← l2, x4, y4, Nat.add_mul]) c1 (by rw [zeroCells_size, z2]) (by unfold big; omega) c3 c4 c5 c6
  exact ⟨σ, _, w', c2, q1, q2, q3⟩
/-- a nil slice -/
theorem ap_nil {v v' : AW} (hW : WR P ρ v w) {r : AV} {y : Value} {ts : Array TypeId} {ty t uu e : TypeId} {du : TypeDesc} {z k m : Nat} {u : AV} (hu : VR ρ u y) (hm : lenV u = some m) (h0 : ts[0]? = some t) (h1 : ts[1]? = some uu) (ht : P.underlying t = some (.slice e)) (hu2 : P.underlying uu = some du) (hi : ∀ k, du ≠ .int k) (hz : sizeOf P e = some z)
    (hz0 : 0 < z) (hk : bytesOf P e = some k) (hk1 : k < 65536) (hk0 : 0 < k) (hzl : zlOk P e z = true) (hm0 : m ≠ 0) (hnm : m < 1000000000) {new : List AV} (hs : srcV v z m u = some new) (h : apRow v e m new = some (r, v')) : ApR P ρ v w ts ty (.slice none 0 0) y r v' := by
  refine ap_anew hW hu hm h0 h1 ht hu2 hi hz hz0 hk hk1 hk0 hzl (n := 0) (by omega) (by omega) ⟨#[], fun w1 _ => rfl, .nil, by simp, by simp⟩ (src_run hW hu hm (Nat.le_refl _) hs) ?_
  rw [Nat.zero_add, List.nil_append]; exact h
end
end Go.Proofs.YtoffclpjhikjkaaGreat.Ev
namespace Go.Proofs.YtoffclpjhikjkaaGreat.Ev
open Go
section
variable {P : Program} {ρ : Ren} {s s' : St} {w : World} {ev : Operand → Value} {o : Oper} {nt : Nat}
theorem part_at {v : AW} {b o n : Nat} {cs : PT AV} {k : Nat} {e : TypeId} {lo : Bool} {gp sh f h : Nat} {l : List AV} (hb : v.bl.get b = some (.cells cs k e lo gp sh f h)) (hk : o + n ≤ k) (hp : ptPart cs n o = some l) : v.cellsAt b o n = some l := by
  unfold AW.cellsAt
  rw [hb]
  show ifB (Nat.ble (o + n) k) (ptPart cs n o) = some l
  exact ifB_some.2 ⟨by rw [ble_d, decide_eq_true_eq]; exact hk, hp⟩
/-- the cells that a slice holds -/
theorem old_run {v : AW} (hW : WR P ρ v w) {b o n d : Nat} {t : Ent} {z : Nat} {old : List AV} (ht : ρ b = some t) (h : v.cellsAt b o (n * z) = some old) :
    ∃ xs, (∀ w1 : World, w1.heap = w.heap → (Builtin.firstCells z n (.slice (some ⟨t.blk, t.sh + o, none⟩) n d)).run P w1 = .ok xs w1) ∧ VRs ρ old xs.toList ∧ (∀ y ∈ xs, one y = true) ∧ old.length = n * z := by
  obtain ⟨C, e, fz, g1, g2, g3, g4⟩ := cellsAt_run hW h ht
  refine ⟨((C.toList.drop (t.sh + o)).take (n * z)).toArray, fun w1 hw1 => ?_, by simpa using g3, fun y hy => g4 y (by simpa using hy), by rw [g3.length]; simp; omega⟩
  exact run_loadCells (a := ⟨t.blk, t.sh + o, none⟩) rfl (by rw [hw1]; exact g1) (n * z) (by dsimp only; omega)
/-- a slice whose capacity is known -/
theorem ap_exact {v v' : AW} (hW : WR P ρ v w) {r : AV} {x y : Value} {ts : Array TypeId} {ty t uu e e' : TypeId} {du : TypeDesc} {z k n m c b o kk : Nat} {u : AV} {cs : PT AV} {gp sh f hh : Nat} (hx : VR ρ (.sl b o n c) x) (hb : v.bl.get b = some (.cells cs kk e' false gp sh f hh)) (hu : VR ρ u y) (hm : lenV u = some m) (h0 : ts[0]? = some t) (h1 : ts[1]? = some uu) (ht : P.underlying t = some (.slice e)) (hu2 : P.underlying uu = some du) (hi : ∀ k, du ≠ .int k) (hz : sizeOf P e = some z)
    (hz0 : 0 < z) (hk : bytesOf P e = some k) (hk1 : k < 65536) (hk0 : 0 < k) (hzl : zlOk P e z = true) (hnm : n + m < 1000000000) {new old : List AV} (hs : srcV v z m u = some new) (hkk : o + n * z ≤ kk) (hp : ptPart cs (n * z) o = some old)
    (h : (bif Nat.ble (n + m) c then seqO (v.writeL b (o + n * z) new) fun w => some (.sl b o (n + m) c, w) else apRow v e (n + m) (old ++ new)) = some (r, v')) : ApR P ρ v w ts ty x y r v' := by
  obtain ⟨b', q, n', c', te, heq, hr, hn, hc⟩ := hx.asSl rfl
  injection heq with _ e1 e2 e3 e4
  subst e1; subst e2; subst e3; subst e4
  obtain ⟨C, fz, g1, g2⟩ := hW.blk _ _ _ hb hr
  obtain ⟨g3, _, _⟩ := g2.ex rfl
  have hxe : x = .slice (some ⟨te.blk, te.sh + o, none⟩) n c := by
    rcases hc with ⟨_, hx⟩ | ⟨_, _, q, _⟩
    · exact hx
    · rw [g3] at q; cases q
  subst hxe
  obtain ⟨ys, y1, y2, y3, y4⟩ := src_run hW hu hm (Nat.le_refl _) hs
  cases hle : Nat.ble (n + m) c with
  | true =>
    rw [hle] at h
    simp only [cond_true] at h
    rw [ble_d, decide_eq_true_eq] at hle
    obtain ⟨v1, k1, k2⟩ := seqO_some.1 h
    injection k2 with k2; injection k2 with k2 k3
    subst k2; subst k3
    obtain ⟨w', m1, m2, m3⟩ := write_run hW (l := new) (ys := ys.toList) k1 hr (fun cs j hj => ptOf_get new _ cs j hj) y2 (fun a ha => y3 a (Array.mem_toList_iff.1 ha))
    refine ⟨ρ, _, w', ap_in h0 h1 ht hu2 hi hz (len_run hu hm w).1 hle (y1 w rfl) (w' := w') (fun a ha => ?_) (fun q => by cases q), .slE b o (n + m) c te hr g3 (by unfold big; omega) hle, m2, m3⟩
    injection ha with ha; subst ha
    have ha : (⟨te.blk, te.sh + o, none⟩ : Addr).add (n * z) = ⟨te.blk, te.sh + (o + n * z), none⟩ := by
      simp [Addr.add, Nat.add_assoc]
    rw [ha]; exact m1
  | false =>
    rw [hle] at h
    simp only [cond_false] at h
    have hle' : ¬ n + m ≤ c := fun q => by
      have := (ble_d (n + m) c).symm.trans hle
      simp [q] at this
    exact ap_anew hW hu hm h0 h1 ht hu2 hi hz hz0 hk hk1 hk0 hzl hle' hnm (old_run hW hr (part_at hb hkk hp)) ⟨ys, y1, y2, y3, y4⟩ h
end
end Go.Proofs.YtoffclpjhikjkaaGreat.Ev
namespace Go.Proofs.YtoffclpjhikjkaaGreat.Ev
open Go
section
variable {P : Program} {ρ : Ren} {w : World}
/-- a new name in the group of another -/
theorem WR.also {v v' : AW} {w w' : World} (h : WR P ρ v w) {b : Nat} {te t : Ent} {cs0 cs : PT AV} {n0 n : Nat} {e0 e : TypeId} {lo0 lo : Bool} {gp sh sh' f0 h0 f hh : Nat} {l : List Nat}
    (hb : v.bl.get b = some (.cells cs0 n0 e0 lo0 gp sh f0 h0)) (ht : ρ b = some te) (hl : v.gr.get gp = some l) (hn : v'.nx = v.nx + 1) (hlt : v.nx < big) (hg : v'.gr = v.gr.set gp (some (v.nx :: l)))
    (hself : v'.bl.get v.nx = some (.cells cs n e lo gp sh' f hh)) (hB : BR P (ρ.add v.nx t) w' t (.cells cs n e lo gp sh' f hh))
    (hget : ∀ j, j ≠ v.nx → v'.bl.get j = v.bl.get j ∨ (v'.bl.get j = none ∧ j ∈ l ∧ ∃ cs2 n2 e2 lo2 gp2 sh2 f2 h2, v.bl.get j = some (.cells cs2 n2 e2 lo2 gp2 sh2 f2 h2)))
    (hsize : w.heap.size ≤ w'.heap.size) (htb : t.blk < w'.heap.size)
    (hoth : ∀ j B2 t2, j ≠ v.nx → v'.bl.get j = some B2 → v.bl.get j = some B2 → ρ j = some t2 → BR P ρ w' t2 B2)
    (hal : (t.blk = te.blk ∧ t.sh + sh = te.sh + sh') ∨ w.heap.size ≤ t.blk) (ho : w'.os = w.os) (hta : w'.tape = w.tape) (hou : w'.output = w.output)
    (hkeep : ∀ k, k < w.heap.size → ¬ Im ρ v k → w'.heap[k]? = w.heap[k]?) :
    WR P (ρ.add v.nx t) v' w' ∧ Stp ρ v w (ρ.add v.nx t) v' w' := by
  have hr : ρ v.nx = none := by
    cases hq : ρ v.nx with
    | none => rfl
    | some t' => exact absurd (h.nxR _ _ hq).1 (Nat.lt_irrefl _)
  have hle := Ren.add_le (t := t) hr
  have hadd : ∀ b t', ρ.add v.nx t b = some t' → (b = v.nx ∧ t' = t) ∨ (b ≠ v.nx ∧ ρ b = some t') := fun b t' q => by
    unfold Ren.add at q
    by_cases hk : b = v.nx
    · rw [if_pos hk] at q; injection q with q; exact .inl ⟨hk, q.symm⟩
    · rw [if_neg hk] at q; exact .inr ⟨hk, q⟩
  have hgp := h.grN _ _ hl
  have hgb : gp < big := Nat.lt_trans hgp.1 hlt
  have hgr : ∀ g, v'.gr.get g = if g = gp then some (v.nx :: l) else v.gr.get g := fun g => by rw [hg, PT.get_set _ _ _ _ hgb]
  have hbl : b ∈ l := by
    obtain ⟨l2, p3, p4⟩ := h.grp _ _ _ _ _ _ _ _ _ hb
    rw [hl] at p3; injection p3 with p3; subst p3; exact p4
  have hold : ∀ j B2, j ≠ v.nx → v'.bl.get j = some B2 → v.bl.get j = some B2 := fun j B2 hj q => by
    rcases hget j hj with e | ⟨e, _⟩
    · rw [← e]; exact q
    · rw [e] at q; cases q
  -- pending blocks lie in groups of their own
  have hpend : ∀ j cs n e lo g s f hh, v.bl.get j = some (.cells cs n e lo g s f hh) → ρ j = none → g ≠ gp := fun j cs n e lo g s f hh q1 q2 q3 => by
    subst q3
    have p1 := h.pend _ _ _ _ _ _ _ _ _ q1 q2
    rw [hl] at p1; injection p1 with p1; subst p1
    have := List.mem_singleton.1 hbl
    subst this
    rw [ht] at q2; cases q2
  refine ⟨⟨fun j B2 t2 q1 q2 => ?_, fun j B2 q => ?_, fun j t2 q => ?_, by rw [hn]; omega, fun j cs n e lo g s f hh q => ?_, fun g l' m cs n e lo g2 s f hh q1 q2 q3 => ?_, fun g l' q => ?_, fun j cs n e lo g s f hh q1 q2 => ?_, ?_, ?_⟩, ?_⟩
  · rcases hadd j t2 q2 with ⟨rfl, rfl⟩ | ⟨hj, h3⟩
    · rw [hself] at q1; injection q1 with q1; subst q1; exact hB
    · exact (hoth j B2 t2 hj q1 (hold j B2 hj q1) h3).mono hle rfl
  · by_cases hj : j = v.nx
    · rw [hn, hj]; omega
    · have := h.nxB _ _ (hold j B2 hj q); rw [hn]; omega
  · rw [hn]
    rcases hadd j t2 q with ⟨rfl, rfl⟩ | ⟨_, h3⟩
    · exact ⟨by omega, htb⟩
    · have := h.nxR _ _ h3; exact ⟨by omega, by omega⟩
  · by_cases hj : j = v.nx
    · subst hj
      rw [hself] at q; injection q with q; injection q with _ _ _ _ q1
      subst q1
      exact ⟨_, by rw [hgr, if_pos rfl], by simp⟩
    · obtain ⟨l2, h1, h2⟩ := h.grp _ _ _ _ _ _ _ _ _ (hold j _ hj q)
      by_cases hgg : g = gp
      · subst hgg
        rw [hl] at h1; injection h1 with h1; subst h1
        exact ⟨_, by rw [hgr, if_pos rfl], List.mem_cons_of_mem _ h2⟩
      · exact ⟨l2, by rw [hgr, if_neg hgg]; exact h1, h2⟩
  · by_cases hm : m = v.nx
    · subst hm
      rw [hself] at q3; injection q3 with q3; injection q3 with _ _ _ _ q4
      subst q4
      by_cases hgg : g = gp
      · exact hgg.symm
      · rw [hgr, if_neg hgg] at q1
        exact absurd ((h.grN _ _ q1).2 _ q2) (Nat.lt_irrefl _)
    · have q4 := hold m _ hm q3
      by_cases hgg : g = gp
      · subst hgg
        rw [hgr, if_pos rfl] at q1; injection q1 with q1; subst q1
        rcases List.mem_cons.1 q2 with q2 | q2
        · exact absurd q2 hm
        · exact h.grM _ _ _ _ _ _ _ _ _ _ _ hl q2 q4
      · rw [hgr, if_neg hgg] at q1
        exact h.grM _ _ _ _ _ _ _ _ _ _ _ q1 q2 q4
  · rw [hn]
    by_cases hgg : g = gp
    · subst hgg
      rw [hgr, if_pos rfl] at q; injection q with q; subst q
      exact ⟨by omega, fun m hm => by
        rcases List.mem_cons.1 hm with hm | hm
        · omega
        · have := hgp.2 m hm; omega⟩
    · rw [hgr, if_neg hgg] at q
      have := h.grN _ _ q
      exact ⟨by omega, fun m hm => by have := this.2 m hm; omega⟩
  · have hj : j ≠ v.nx := fun e => by subst e; rw [Ren.add_same] at q2; cases q2
    have h3 : ρ j = none := by unfold Ren.add at q2; rw [if_neg hj] at q2; exact q2
    have h4 := hold j _ hj q1
    rw [hgr, if_neg (hpend _ _ _ _ _ _ _ _ _ h4 h3)]
    exact h.pend _ _ _ _ _ _ _ _ _ h4 h3
  · intro j1 cs1 n1 e1 lo1 g1 s1 f1 hh1 t1 j2 cs2 n2 e2 lo2 g2 s2 f2 hh2 t2 q1 q2 q3 q4 q5 q6
    -- the new name beside an old one
    have key : ∀ j cs2 n2 e2 lo2 g2 s2 f2 hh2 t2, v.bl.get j = some (.cells cs2 n2 e2 lo2 g2 s2 f2 hh2) → ρ j = some t2 → t.blk = t2.blk → gp = g2 ∧ t.sh + s2 = t2.sh + sh' := fun j cs2 n2 e2 lo2 g2 s2 f2 hh2 t2 p1 p2 p3 => by
      have hlt2 := (h.nxR _ _ p2).2
      rcases hal with ⟨a1, a2⟩ | a
      · by_cases hjb : j = b
        · subst hjb
          rw [hb] at p1; injection p1 with p1; injection p1 with _ _ _ _ c1 c2
          rw [ht] at p2; injection p2 with p2
          subst c1; subst c2; subst p2
          exact ⟨rfl, a2⟩
        · obtain ⟨c1, c2⟩ := h.alias _ _ _ _ _ _ _ _ _ _ _ _ _ _ _ _ _ _ _ _ hb p1 ht p2 (fun e => hjb e.symm) (a1.symm.trans p3)
          exact ⟨c1, by omega⟩
      · omega
    rcases hadd _ _ q3 with ⟨rfl, rfl⟩ | ⟨k1, k2⟩
    · rw [hself] at q1; injection q1 with q1; injection q1 with _ _ _ _ c1 c2
      subst c1; subst c2
      rcases hadd _ _ q4 with ⟨rfl, rfl⟩ | ⟨k3, k4⟩
      · exact absurd rfl q5
      · exact key _ _ _ _ _ _ _ _ _ _ (hold _ _ k3 q2) k4 q6
    · rcases hadd _ _ q4 with ⟨rfl, rfl⟩ | ⟨k3, k4⟩
      · rw [hself] at q2; injection q2 with q2; injection q2 with _ _ _ _ c1 c2
        subst c1; subst c2
        obtain ⟨c1, c2⟩ := key _ _ _ _ _ _ _ _ _ _ (hold _ _ k1 q1) k2 q6.symm
        exact ⟨c1.symm, c2.symm⟩
      · exact h.alias _ _ _ _ _ _ _ _ _ _ _ _ _ _ _ _ _ _ _ _ (hold _ _ k1 q1) (hold _ _ k3 q2) k2 k4 q5 q6
  · intro j1 o1 j2 o2 t1 t2 q1 q2 q3 q4 q6
    have n1 : ∀ j o, v'.bl.get j = some (.oth o) → j ≠ v.nx := fun j o q e => by subst e; rw [hself] at q; cases q
    have m1 := n1 _ _ q1
    have m2 := n1 _ _ q2
    rcases hadd _ _ q3 with ⟨rfl, _⟩ | ⟨_, k2⟩
    · exact absurd rfl m1
    · rcases hadd _ _ q4 with ⟨rfl, _⟩ | ⟨_, k4⟩
      · exact absurd rfl m2
      · exact h.inj _ _ _ _ _ _ (hold _ _ m1 q1) (hold _ _ m2 q2) k2 k4 q6
  · refine ⟨hle, by rw [hn]; omega, fun j hj hr2 => ⟨?_, ?_⟩, hsize, ho, hta, hou, hkeep, fun k hk hl2 => ?_⟩
    · unfold Ren.add; rw [if_neg (by omega)]; exact hr2
    · rcases hget j (by omega) with q | ⟨_, q2, cs2, n2, e2, lo2, g2, s2, f2, h2, q3⟩
      · exact q
      · have := h.grM _ _ _ _ _ _ _ _ _ _ _ hl q2 q3
        exact absurd this (hpend _ _ _ _ _ _ _ _ _ q3 hr2)
    · obtain ⟨j, B2, t2, g1, g2, g3⟩ := hk
      rcases hadd _ _ g2 with ⟨rfl, rfl⟩ | ⟨k1, k2⟩
      · rcases hal with ⟨a, _⟩ | a
        · exact ⟨b, _, te, hb, ht, by rw [← g3]; exact a.symm⟩
        · omega
      · exact ⟨j, B2, t2, hold _ _ k1 g1, k2, g3⟩
end
end Go.Proofs.YtoffclpjhikjkaaGreat.Ev
namespace Go.Proofs.YtoffclpjhikjkaaGreat.Ev
open Go
section
variable {P : Program} {ρ : Ren} {w : World}
theorem new_none {v : AW} (hW : WR P ρ v w) : ρ v.nx = none := by
  cases hq : ρ v.nx with
  | none => rfl
  | some t' => exact absurd (hW.nxR _ _ hq).1 (Nat.lt_irrefl _)
theorem apLo_some {v v' : AW} {b o n m z : Nat} {old new : List AV} {e gp sh f h : Nat} {r : AV} {L : List Nat} (hW : WR P ρ v w) (hL : v.gr.get gp = some L) (q : apLo v b o n m z old new e gp sh f h = some (r, v')) :
    (noFz f h (o + n * z) (m * z) = true ∧ old.length + new.length ≤ big) ∧ v.nx < big ∧ r = .sl v.nx 0 (n + m) 0 ∧ v'.nx = v.nx + 1 ∧ v'.gr = v.gr.set gp (some (v.nx :: L)) ∧
      v'.bl.get v.nx = some (.cells (ptOf (old ++ new) 0 .e) (old.length + new.length) e true gp (sh + o) (f - o) (h - o)) ∧
      (∀ j, j ≠ v.nx → v'.bl.get j = v.bl.get j ∨ (v'.bl.get j = none ∧ j ∈ L ∧ ∃ cs2 n2 e2 lo2 gp2 sh2 f2 h2, v.bl.get j = some (.cells cs2 n2 e2 lo2 gp2 sh2 f2 h2))) ∧
      (∀ j cs2 n2 e2 lo2 gp2 sh2 f2 h2, j ∈ L → v'.bl.get j = some (.cells cs2 n2 e2 lo2 gp2 sh2 f2 h2) → sh2 + n2 ≤ sh + o + n * z ∨ sh + o + n * z + m * z ≤ sh2) := by
  unfold apLo at q
  obtain ⟨q1, q2⟩ := ifB_some.1 q
  obtain ⟨i, v1, q3, q4⟩ := seqP_some.1 q2
  obtain ⟨g1, g2, g3, g4, g5⟩ := new_some q3
  rw [if_neg (by decide)] at g5
  injection q4 with q4; injection q4 with q4 q5
  rw [g5, hL] at q5
  subst g2
  have hnL : ∀ j ∈ L, j < v.nx := (hW.grN _ _ hL).2
  have hLb : ∀ j ∈ L, j < big := fun j hj => Nat.lt_trans (hnL j hj) g1
  have hnin : v.nx ∉ L := fun q => Nat.lt_irrefl _ (hnL _ q)
  have hset : ∀ j, v1.bl.get j = if j = v.nx then some (.cells (ptOf (old ++ new) 0 .e) (old.length + new.length) e true gp (sh + o) (f - o) (h - o)) else v.bl.get j := fun j => by rw [g4, PT.get_set _ _ _ _ g1]
  have hbl : v'.bl = kills v.nx (sh + o + n * z) (sh + o + n * z + m * z) L v1.bl := by rw [← q5]; rfl
  rw [Bool.and_eq_true, ble_d, decide_eq_true_eq] at q1
  refine ⟨q1, g1, q4.symm, by rw [← q5]; exact g3, by rw [← q5]; rfl, ?_, fun j hj => ?_, fun j cs2 n2 e2 lo2 gp2 sh2 f2 h2 hj q => ?_⟩
  · rw [hbl]
    rcases kills_get (me := v.nx) (g := sh + o + n * z) (h := sh + o + n * z + m * z) L v1.bl hLb v.nx with k | ⟨_, k, _⟩
    · rw [k, hset, if_pos rfl]
    · exact absurd k hnin
  · rw [hbl]
    rcases kills_get (me := v.nx) (g := sh + o + n * z) (h := sh + o + n * z + m * z) L v1.bl hLb j with k | ⟨k1, k2, _, cs2, n2, e2, lo2, gp2, sh2, f2, h2, k3⟩
    · exact .inl (by rw [k, hset, if_neg hj])
    · refine .inr ⟨k1, k2, cs2, n2, e2, lo2, gp2, sh2, f2, h2, ?_⟩
      rw [hset, if_neg hj] at k3; exact k3
  · rw [hbl] at q
    exact kills_apart L v1.bl hLb j _ _ _ _ _ _ _ _ hj (fun e => hnin (by rw [← e]; exact hj)) q
/-- a slice of unknown capacity, in place -/
theorem ap_lo_in {v v' : AW} (hW : WR P ρ v w) {r : AV} {y : Value} {ts : Array TypeId} {ty t uu e : TypeId} {du : TypeDesc} {z n m b o kk d lim : Nat} {u : AV} {cs : PT AV} {gp sh f hh : Nat} {te : Ent} (hr : ρ b = some te) (hlo : te.lo = some (z, lim)) (hd : n + m ≤ d) (hlim : o + d * z ≤ lim)
    (hb : v.bl.get b = some (.cells cs kk e true gp sh f hh)) (hu : VR ρ u y) (hm : lenV u = some m) (h0 : ts[0]? = some t) (h1 : ts[1]? = some uu) (ht : P.underlying t = some (.slice e)) (hu2 : P.underlying uu = some du) (hi : ∀ k, du ≠ .int k) (hz : sizeOf P e = some z)
    (hz0 : 0 < z) (hnm : n + m < 1000000000) {new old : List AV} (hs : srcV v z m u = some new) (hkk : o + n * z ≤ kk) (hp : ptPart cs (n * z) o = some old)
    (h : apLo v b o n m z old new e gp sh f hh = some (r, v')) : ApR P ρ v w ts ty (.slice (some ⟨te.blk, te.sh + o, none⟩) n d) y r v' := by
  obtain ⟨L, hL, hbL⟩ := hW.grp _ _ _ _ _ _ _ _ _ hb
  obtain ⟨⟨k1, hbg⟩, k2, k3, k4, k5, k6, k7, k8⟩ := apLo_some hW hL h
  subst k3
  obtain ⟨ys, y1, y2, y3, y4⟩ := src_run hW hu hm (Nat.le_refl _) hs
  obtain ⟨C, e', fz, c1, c2, c3, c4⟩ := cellsAt_run hW (part_at hb hkk hp) hr
  obtain ⟨C', fz', c5, c6⟩ := hW.blk _ _ _ hb hr
  rw [c1] at c5; injection c5 with c5; injection c5 with c5 c7 c8
  subst c5; subst c7; subst c8
  obtain ⟨st, lim', l1, l2, l3, l4, l5⟩ := c6.lo rfl
  rw [hlo] at l1; injection l1 with l1; injection l1 with l1 l1'
  subst l1; subst l1'
  have hyl := y2.length
  have hol : old.length = n * z := by rw [c3.length]; simp; omega
  have hmul : (n + m) * z ≤ d * z := Nat.mul_le_mul_right _ hd
  rw [Nat.add_mul] at hmul
  obtain ⟨w', m1, m2⟩ := run_storeCells (P := P) (a := ⟨te.blk, te.sh + o + n * z, none⟩) rfl ys.toList 0 w C c1 (by dsimp only; omega) (fun j q1 q2 q3 => by
    dsimp only at q1 q2
    have hz := c6.fz.at (j - te.sh) (by omega) (by omega)
    exact noFz_t k1 (j - te.sh) (by omega) (by omega) hz) (fun a ha => y3 a (Array.mem_toList_iff.1 ha))
  simp only [Nat.add_zero] at m2
  have hblk : te.blk < w'.heap.size := by rw [m2.size]; exact (hW.nxR _ _ hr).2
  have hle := Ren.add_le (t := ⟨te.blk, te.sh + o, some (z, lim - o)⟩) (new_none hW)
  have g1 : BR P (ρ.add v.nx ⟨te.blk, te.sh + o, some (z, lim - o)⟩) w' ⟨te.blk, te.sh + o, some (z, lim - o)⟩ (.cells (ptOf (old ++ new) 0 .e) (old.length + new.length) e' true gp (sh + o) (f - o) (hh - o)) := by
    refine ⟨_, fz, by dsimp only; rw [m2.heap, if_pos rfl], ⟨fun q => (by cases q), fun _ => ⟨z, lim - o, rfl, ?_, ?_, l4, l5⟩, fun i a q1 q2 => ?_, ?_⟩⟩
    · rw [cput_size]; dsimp only; omega
    · rw [hol, y4]; omega
    · rw [ptOf_get _ _ _ _ (by rw [List.length_append]; omega)] at q2
      rw [if_pos ⟨Nat.zero_le _, by rw [List.length_append]; omega⟩, Nat.sub_zero] at q2
      dsimp only
      by_cases hio : i < n * z
      · rw [List.getElem?_append_left (by omega)] at q2
        obtain ⟨x, p1, p2⟩ := c3.get q2
        refine ⟨x, ?_, p2.mono hle, c4 x (List.mem_of_getElem? p1)⟩
        rw [cput_get _ _ _ _ (by omega), if_neg (by omega)]
        rw [List.getElem?_take_of_lt hio, List.getElem?_drop] at p1
        simpa using p1
      · rw [List.getElem?_append_right (by omega)] at q2
        obtain ⟨x, p1, p2⟩ := y2.get q2
        refine ⟨x, ?_, p2.mono hle, y3 x (Array.mem_toList_iff.1 (List.mem_of_getElem? p1))⟩
        rw [cput_get _ _ _ _ (by omega), if_pos (by omega)]
        rw [show te.sh + o + i - (te.sh + o + n * z) = i - old.length from by omega]; exact p1
    · have hfz := c6.fz
      unfold FZ at hfz ⊢
      dsimp only
      omega
  have g2 : ∀ j B2 t2, j ≠ v.nx → v'.bl.get j = some B2 → v.bl.get j = some B2 → ρ j = some t2 → BR P ρ w' t2 B2 := by
    intro j B2 t2 hj q1 q2 q3
    by_cases hbk : t2.blk = te.blk
    · cases B2 with
      | oth o2 =>
        obtain ⟨ob, p1, p2, _⟩ := hW.blk _ _ _ q2 q3
        rw [hbk, c1] at p1; injection p1 with p1; subst p1; exact absurd p2 OR.not_cells
      | cells cs2 n2 e2 lo2 gp2 sh2 f2 h2' =>
        obtain ⟨C2, fz2, p1, p2⟩ := hW.blk _ _ _ q2 q3
        rw [hbk, c1] at p1; injection p1 with p1; injection p1 with p1 p3 p4
        subst p1; subst p3; subst p4
        have hal : gp = gp2 ∧ te.sh + sh2 = t2.sh + sh := by
          by_cases hjb : j = b
          · subst hjb
            rw [hb] at q2; injection q2 with q2; injection q2 with _ _ _ _ d1 d2
            rw [hr] at q3; injection q3 with q3
            subst d1; subst d2; subst q3; exact ⟨rfl, rfl⟩
          · exact hW.alias _ _ _ _ _ _ _ _ _ _ _ _ _ _ _ _ _ _ _ _ hb q2 hr q3 (fun e => hjb e.symm) hbk.symm
        obtain ⟨a1, a2⟩ := hal
        subst a1
        have hjL : j ∈ L := by
          obtain ⟨L2, g1, g2⟩ := hW.grp _ _ _ _ _ _ _ _ _ q2
          rw [hL] at g1; injection g1 with g1; subst g1; exact g2
        have hap := k8 j _ _ _ _ _ _ _ _ hjL q1
        refine ⟨_, fz, by rw [m2.heap, if_pos hbk], ⟨fun q => by rw [cput_size]; exact p2.ex q, fun q => by rw [cput_size]; exact p2.lo q, fun i u p1 p3 => ?_, p2.fz⟩⟩
        rw [cput_get _ _ _ _ (by omega), if_neg (by omega)]
        exact p2.cell i u p1 p3
    · exact (hW.blk j B2 t2 q2 q3).mono (.refl _) (by rw [m2.heap, if_neg hbk])
  obtain ⟨r1, r2⟩ := hW.also (w' := w') (t := ⟨te.blk, te.sh + o, some (z, lim - o)⟩) hb hr hL k4 k2 k5 k6 g1 k7 (by rw [m2.size]; exact Nat.le_refl _) hblk g2 (.inl ⟨rfl, by dsimp only; omega⟩) m2.os m2.tape m2.output
    (fun k hk hi => by rw [m2.heap, if_neg (fun e => hi ⟨b, _, te, hb, hr, e.symm⟩)])
  refine ⟨_, _, w', ap_in h0 h1 ht hu2 hi hz (len_run hu hm w).1 hd (y1 w rfl) (w' := w') (fun a ha => ?_) (fun q => by cases q), ?_, r1, r2⟩
  · injection ha with ha; subst ha
    have ha : (⟨te.blk, te.sh + o, none⟩ : Addr).add (n * z) = ⟨te.blk, te.sh + o + n * z, none⟩ := by
      simp [Addr.add]
    rw [ha]; exact m1
  · exact VR.slL v.nx 0 (n + m) 0 ⟨te.blk, te.sh + o, some (z, lim - o)⟩ z (lim - o) d (Ren.add_same _ _ _) rfl hd (by omega) (by unfold big; omega)
end
end Go.Proofs.YtoffclpjhikjkaaGreat.Ev
namespace Go.Proofs.YtoffclpjhikjkaaGreat.Ev
open Go
section
variable {P : Program} {ρ : Ren} {w : World}
/-- a slice of unknown capacity, anew -/
theorem ap_lo_new {v v' : AW} (hW : WR P ρ v w) {r : AV} {y : Value} {ts : Array TypeId} {ty t uu e : TypeId} {du : TypeDesc} {z k n m b o kk cap : Nat} {base : Option Addr} {u : AV} {cs : PT AV} {gp sh f hh : Nat} {te : Ent} (hr : ρ b = some te) (hle : ¬ n + m ≤ cap)
    (hb : v.bl.get b = some (.cells cs kk e true gp sh f hh)) (hu : VR ρ u y) (hm : lenV u = some m) (h0 : ts[0]? = some t) (h1 : ts[1]? = some uu) (ht : P.underlying t = some (.slice e)) (hu2 : P.underlying uu = some du) (hi : ∀ k, du ≠ .int k) (hz : sizeOf P e = some z)
    (hz0 : 0 < z) (hk : bytesOf P e = some k) (hk1 : k < 65536) (hk0 : 0 < k) (hzl : zlOk P e z = true) (hnm : n + m < 1000000000) {new old : List AV} (hs : srcV v z m u = some new)
    (hold : ∃ xs, (∀ w1 : World, w1.heap = w.heap → (Builtin.firstCells z n (.slice base n cap)).run P w1 = .ok xs w1) ∧ VRs ρ old xs.toList ∧ (∀ y ∈ xs, one y = true) ∧ old.length = n * z)
    (h : apLo v b o n m z old new e gp sh f hh = some (r, v')) : ApR P ρ v w ts ty (.slice base n cap) y r v' := by
  obtain ⟨L, hL, hbL⟩ := hW.grp _ _ _ _ _ _ _ _ _ hb
  obtain ⟨⟨k1, hbg⟩, k2, k3, k4, k5, k6, k7, k8⟩ := apLo_some hW hL h
  subst k3
  obtain ⟨ys, y1, y2, y3, y4⟩ := src_run hW hu hm (Nat.le_refl _) hs
  obtain ⟨xs, x1, x2, x3, x4⟩ := hold
  obtain ⟨zv, z1, z2⟩ := zl_run (P := P) hzl
  obtain ⟨c, w', c1, c2, c3, c4, c5, c6⟩ := ap_new (ty := ty) (base := base) h0 h1 ht hu2 hi hz hk hk1 hk0 z1 (len_run hu hm w).1 hle hnm y1 x1
  have hxl := x2.length
  have hyl := y2.length
  simp only [Array.length_toList] at hxl hyl
  have hsize : (xs ++ ys ++ Builtin.zeroCells zv.cells (c - (n + m))).size = c * z := by
    rw [Array.size_append, Array.size_append, ← hxl, ← hyl, x4, y4, zeroCells_size, z2, ← Nat.add_mul, ← Nat.add_mul, Nat.add_sub_cancel' c1]
  have hmul : (n + m) * z ≤ c * z := Nat.mul_le_mul_right _ c1
  rw [Nat.add_mul] at hmul
  have hle2 := Ren.add_le (t := ⟨w.heap.size, 0, some (z, c * z)⟩) (new_none hW)
  have hat : ∀ k, k < w.heap.size → w'.heap[k]? = w.heap[k]? := fun k hk => by rw [c3, Array.getElem?_push, if_neg (by omega)]
  have g1 : BR P (ρ.add v.nx ⟨w.heap.size, 0, some (z, c * z)⟩) w' ⟨w.heap.size, 0, some (z, c * z)⟩ (.cells (ptOf (old ++ new) 0 .e) (old.length + new.length) e true gp (sh + o) (f - o) (hh - o)) := by
    refine ⟨_, (0, 0), by dsimp only; rw [c3, Array.getElem?_push, if_pos rfl], ⟨fun q => (by cases q), fun _ => ⟨z, c * z, rfl, ?_, ?_, hz, hz0⟩, fun i a q1 q2 => ?_, .inl rfl⟩⟩
    · rw [hsize]; dsimp only; omega
    · rw [x4, y4]; omega
    · rw [ptOf_get _ _ _ _ (by rw [List.length_append]; omega)] at q2
      rw [if_pos ⟨Nat.zero_le _, by rw [List.length_append]; omega⟩, Nat.sub_zero] at q2
      obtain ⟨x, p1, p2⟩ := (x2.append y2).get q2
      have p3 : (xs ++ ys)[i]? = some x := by
        rw [← Array.getElem?_toList, Array.toList_append]; exact p1
      refine ⟨x, ?_, p2.mono hle2, ?_⟩
      · dsimp only
        rw [Nat.zero_add, Array.getElem?_append_left (by rw [Array.size_append]; omega)]; exact p3
      · rcases Array.mem_append.1 (Array.mem_of_getElem? p3) with q | q
        · exact x3 _ q
        · exact y3 _ q
  have g2 : ∀ j B2 t2, j ≠ v.nx → v'.bl.get j = some B2 → v.bl.get j = some B2 → ρ j = some t2 → BR P ρ w' t2 B2 := fun j B2 t2 hj q1 q2 q3 =>
    (hW.blk j B2 t2 q2 q3).mono (.refl _) (hat _ (hW.nxR _ _ q3).2)
  obtain ⟨r1, r2⟩ := hW.also (w' := w') (t := ⟨w.heap.size, 0, some (z, c * z)⟩) hb hr hL k4 k2 k5 k6 g1 k7 (by rw [c3, Array.size_push]; omega) (by rw [c3, Array.size_push]; dsimp only; omega) g2 (.inr (Nat.le_refl _)) c4 c5 c6 (fun k hk _ => hat k hk)
  exact ⟨_, _, w', c2, VR.slL v.nx 0 (n + m) 0 ⟨w.heap.size, 0, some (z, c * z)⟩ z (c * z) c (Ren.add_same _ _ _) rfl c1 (by omega) (by unfold big; omega), r1, r2⟩
/-- append -/
theorem ap_run {v v' : AW} (hW : WR P ρ v w) {r a u : AV} {x y : Value} {ts : Array TypeId} {ty t uu e : TypeId} {du : TypeDesc} {z k n m : Nat} (hx : VR ρ a x) (hn : lenV a = some n) (hu : VR ρ u y) (hm : lenV u = some m) (h0 : ts[0]? = some t) (h1 : ts[1]? = some uu) (ht : P.underlying t = some (.slice e)) (hu2 : P.underlying uu = some du) (hi : ∀ k, du ≠ .int k) (hz : sizeOf P e = some z)
    (hz0 : 0 < z) (hk : bytesOf P e = some k) (hk1 : k < 65536) (hk0 : 0 < k) (hzl : zlOk P e z = true) (h : apV v e z a u n m = some (r, v')) : ApR P ρ v w ts ty x y r v' := by
  unfold apV at h
  obtain ⟨hnm, h⟩ := ifB_some.1 h
  rw [Bool.and_eq_true, blt_d, decide_eq_true_eq, Bool.or_eq_true] at hnm
  obtain ⟨hnm, hsl⟩ := hnm
  cases hm0 : Nat.beq m 0 with
  | true =>
    rw [hm0] at h; simp only [cond_true] at h
    injection h with h; injection h with h h'
    subst h; subst h'
    have := beq_t.1 hm0
    subst this
    exact ap_zero hW hx hsl hu hn hm h0 h1 ht hu2 hi hz
  | false =>
    rw [hm0] at h; simp only [cond_false] at h
    have hm1 : m ≠ 0 := fun q => by subst q; cases hm0
    obtain ⟨new, hs, h⟩ := seqO_some.1 h
    cases h21 : a.is 21 with
    | true =>
      rw [h21] at h; simp only [cond_true] at h
      rcases hx.asNil (by decide) h21 with ⟨q, _⟩ | ⟨_, rfl⟩ | ⟨q, _⟩ | ⟨q, _⟩ | ⟨q, _⟩ | ⟨q, _⟩ <;> first | (exact absurd q (by decide)) | exact ap_nil hW hu hm h0 h1 ht hu2 hi hz hz0 hk hk1 hk0 hzl hm1 (by omega) hs h
    | false =>
      rw [h21] at h; simp only [cond_false] at h
      obtain ⟨h5, h⟩ := ifB_some.1 h
      obtain ⟨B, hB, h⟩ := seqO_some.1 h
      obtain ⟨b, o, n', c, te, rfl, hr, hn', hh⟩ := hx.asSl h5
      have : n' = n := by
        unfold lenV at hn; rw [h5] at hn; simp only [cond_true] at hn; injection hn
      subst this
      cases B with
      | oth o => cases h
      | cells cs kk e' lo gp sh f hh' =>
        obtain ⟨g1, h6⟩ := ifB_some.1 h
        rw [Bool.and_eq_true, beq_t, ble_d, decide_eq_true_eq] at g1
        obtain ⟨rfl, g2⟩ := g1
        clear h
        obtain ⟨old, g3, h⟩ := seqO_some.1 h6
        cases lo with
        | false => exact ap_exact hW hx hB hu hm h0 h1 ht hu2 hi hz hz0 hk hk1 hk0 hzl hnm hs g2 g3 h
        | true =>
          simp only [cond_true] at h
          obtain ⟨C, fz, q1, q2⟩ := hW.blk _ _ _ hB hr
          obtain ⟨st, lim, l1, l2, l3, l4, l5⟩ := q2.lo rfl
          have : st = z := Option.some.inj (l4.symm.trans hz)
          subst this
          have hnw : ∀ base cap, ¬ n' + m ≤ cap → (∃ xs, (∀ w1 : World, w1.heap = w.heap → (Builtin.firstCells st n' (.slice base n' cap)).run P w1 = .ok xs w1) ∧ VRs ρ old xs.toList ∧ (∀ y ∈ xs, one y = true) ∧ old.length = n' * st) → ApR P ρ v w ts ty (.slice base n' cap) y r v' := fun base cap hle hold =>
            ap_lo_new hW hr hle hB hu hm h0 h1 ht hu2 hi hz hz0 hk hk1 hk0 hzl hnm hs hold h
          rcases hh with ⟨q, _⟩ | ⟨st', lim', q, ⟨d, d1, d2, rfl⟩ | ⟨rfl, ad, rfl⟩⟩
          · rw [l1] at q; cases q
          · rw [l1] at q; injection q with q; injection q with e1 e2
            subst e1; subst e2
            by_cases hle : n' + m ≤ d
            · exact ap_lo_in hW hr l1 hle d2 hB hu hm h0 h1 ht hu2 hi hz hz0 hnm hs g2 g3 h
            · exact hnw _ _ hle (old_run hW hr (part_at hB g2 g3))
          · refine hnw _ _ (by omega) ⟨#[], fun w1 _ => ?_, ?_, by simp, ?_⟩
            · show (loadCells ad (0 * st)).run P w1 = _
              rw [Nat.zero_mul]; exact loadCells_zero w1
            · rw [Nat.zero_mul] at g3; injection g3 with g3; subst g3; exact .nil
            · rw [Nat.zero_mul] at g3 ⊢; injection g3 with g3; subst g3; rfl
end
end Go.Proofs.YtoffclpjhikjkaaGreat.Ev
namespace Go.Proofs.YtoffclpjhikjkaaGreat.Ev
open Go
section
variable {P : Program} {ρ : Ren} {s s' : St} {w : World} {ev : Operand → Value} {o : Oper} {c : Call}
theorem blt_exec {b : Builtin} (ho : o.op = .call c) (hc : c.callee = .builtin b) : execOp ev o = Go.builtin b c.argTypes o.type (c.args.map fun | .const _ => true | _ => false) (c.args.map ev) := by
  unfold execOp; rw [ho]; dsimp only
  unfold resolve; rw [hc]; rfl
theorem ap_sound (hW : WR P ρ s.w w) {a u : AV} {x y : Operand} (ho : o.op = .call c) (hc : c.callee = .builtin .append) (hargs : c.args.toList = [x, y]) (ha : VR ρ a (ev x)) (hu : VR ρ u (ev y)) (h : (finW o.dst).f s ((apC P c.argTypes.toList).f s.w a u) = some s') : Fin P ρ s w ev o s' := by
  refine finW_sound h (fun r v' hq => ?_) (.inl (by rw [ho]; show quiet (.call c) = false; show (match c.callee with | .builtin b => (match b with | .len | .min | .max | .cap | .complex | .real | .imag => true | _ => false) | _ => false) = false; rw [hc]))
  have he : execOp ev o = (do pure (Next.value (← Builtin.append_ c.argTypes o.type #[ev x, ev y]))) := by
    rw [blt_exec ho hc]
    have : c.args.map ev = #[ev x, ev y] := by
      apply Array.toList_inj.1; rw [Array.toList_map, hargs]; rfl
    rw [this]; rfl
  suffices hs : ApR P ρ s.w w c.argTypes o.type (ev x) (ev y) r v' by
    obtain ⟨σ, z, w', h1, h2, h3, h4⟩ := hs
    exact ⟨σ, z, w', by rw [he]; exact run_v h1, h2, h3, h4⟩
  unfold apC at hq
  cases hts : c.argTypes.toList with
  | nil => rw [hts] at hq; cases hq
  | cons t l =>
    cases l with
    | nil => rw [hts] at hq; cases hq
    | cons t2 l2 =>
      cases l2 with
      | cons _ _ => rw [hts] at hq; cases hq
      | nil =>
        rw [hts] at hq
        have h0 : c.argTypes[0]? = some t := by rw [← Array.getElem?_toList, hts]; rfl
        have h1 : c.argTypes[1]? = some t2 := by rw [← Array.getElem?_toList, hts]; rfl
        dsimp only at hq
        cases hd : P.underlying t with
        | none => rw [hd] at hq; cases hq
        | some d =>
          cases hd2 : P.underlying t2 with
          | none => rw [hd, hd2] at hq; cases d <;> cases hq
          | some d2 =>
            have key : ∀ e, d = .slice e → (∀ k, d2 ≠ .int k) → (match sizeOf P e, bytesOf P e with
      | some (z + 1), some k => bif Nat.blt k 65536 && (Nat.blt 0 k && zlOk P e (z + 1)) then (⟨fun w v u => seqO (lenV v) fun n => seqO (lenV u) fun m => apV w e (z + 1) v u n m⟩ : Fn1 (AW → AV → AV → Option (AV × AW))) else ⟨fun _ _ _ => none⟩
      | _, _ => ⟨fun _ _ _ => none⟩).f s.w a u = some (r, v') → ApR P ρ s.w w c.argTypes o.type (ev x) (ev y) r v' := fun e hde hi hq => by
              subst hde
              cases hz : sizeOf P e with
              | none => rw [hz] at hq; cases hq
              | some z =>
                cases z with
                | zero => rw [hz] at hq; cases hq
                | succ z =>
                  cases hk : bytesOf P e with
                  | none => rw [hz, hk] at hq; cases hq
                  | some k =>
                    rw [hz, hk] at hq
                    dsimp only at hq
                    cases hcnd : (Nat.blt k 65536 && (Nat.blt 0 k && zlOk P e (z + 1))) with
                    | false => rw [hcnd] at hq; cases hq
                    | true =>
                      rw [hcnd] at hq
                      rw [Bool.and_eq_true, Bool.and_eq_true, blt_d, blt_d, decide_eq_true_eq, decide_eq_true_eq] at hcnd
                      obtain ⟨n, g1, g2⟩ := seqO_some.1 hq
                      obtain ⟨m, g3, g4⟩ := seqO_some.1 g2
                      exact ap_run hW ha g1 hu g3 h0 h1 hd hd2 hi hz (Nat.succ_pos _) hk hcnd.1 hcnd.2.1 hcnd.2.2 g4
            rw [hd, hd2] at hq
            cases d <;> first | (cases d2 <;> cases hq; done) | skip
            cases d2 <;> first | (cases hq; done) | exact key _ rfl (fun k q => by cases q) hq
end
end Go.Proofs.YtoffclpjhikjkaaGreat.Ev
namespace Go.Proofs.YtoffclpjhikjkaaGreat.Ev
open Go
section
variable {P : Program} {ρ : Ren} {s s' : St} {w : World} {ev : Operand → Value} {o : Oper} {c : Call}
theorem int_vr2 {n : Nat} (h : n < big) : VR ρ (.int 129 n) (.int .i64 (n : Int)) := int_vr (Nat.lt_trans h (by decide))
theorem one_arg {ts : List TypeId} {t : TypeId} {l : List TypeId} {A : Array TypeId} (h : A.toList = ts) (h2 : ts = t :: l) : A[0]? = some t := by
  rw [← Array.getElem?_toList, h, h2]; rfl
/-- copy -/
theorem cp_sound (hW : WR P ρ s.w w) {a u : AV} {x y : Operand} (ho : o.op = .call c) (hc : c.callee = .builtin .copy) (hargs : c.args.toList = [x, y]) (ha : VR ρ a (ev x)) (hu : VR ρ u (ev y)) (h : (finW o.dst).f s ((cpC P c.argTypes.toList).f s.w a u) = some s') : Fin P ρ s w ev o s' := by
  refine finW_sound h (fun r v' hq => ?_) (.inl (by rw [ho]; show quiet (.call c) = false; show (match c.callee with | .builtin b => (match b with | .len | .min | .max | .cap | .complex | .real | .imag => true | _ => false) | _ => false) = false; rw [hc]))
  have he : execOp ev o = (do pure (Next.value (← Builtin.copy_ c.argTypes o.type #[ev x, ev y]))) := by
    rw [blt_exec ho hc]
    have : c.args.map ev = #[ev x, ev y] := by
      apply Array.toList_inj.1; rw [Array.toList_map, hargs]; rfl
    rw [this]; rfl
  suffices hs : ∃ z w', (Builtin.copy_ c.argTypes o.type #[ev x, ev y]).run P w = .ok z w' ∧ VR ρ r z ∧ WR P ρ v' w' ∧ Stp ρ s.w w ρ v' w' by
    obtain ⟨z, w', h1, h2, h3, h4⟩ := hs
    exact ⟨ρ, z, w', by rw [he]; exact run_v h1, h2, h3, h4⟩
  unfold cpC at hq
  cases hts : c.argTypes.toList with
  | nil => rw [hts] at hq; cases hq
  | cons t l =>
    rw [hts] at hq
    have h0 := one_arg hts rfl
    dsimp only at hq
    cases hd : P.underlying t with
    | none => rw [hd] at hq; cases hq
    | some d =>
      rw [hd] at hq
      cases d <;> first | (cases hq; done) | skip
      case slice e =>
        dsimp only at hq
        cases hz : sizeOf P e with
        | none => rw [hz] at hq; cases hq
        | some z =>
          rw [hz] at hq
          dsimp only at hq
          obtain ⟨n, g1, hq⟩ := seqO_some.1 hq
          obtain ⟨m, g2, hq⟩ := seqO_some.1 hq
          unfold cpV at hq
          obtain ⟨cs, g3, hq⟩ := seqO_some.1 hq
          have hmin : minN m n = Nat.min m n := by
            unfold minN
            cases hb : Nat.ble m n with
            | true => rw [ble_d, decide_eq_true_eq] at hb; exact (Nat.min_eq_left hb).symm
            | false =>
              rw [ble_d, decide_eq_false_iff_not] at hb
              have h7 : n ≤ m := by omega
              exact (Nat.min_eq_right h7).symm
          rw [hmin] at g3 hq
          have hlm := len_run (P := P) hu g2 w
          have hk : Nat.min m n < big := Nat.lt_of_le_of_lt (Nat.min_le_left _ _) hlm.2
          obtain ⟨ys, y1, y2, y3, y4⟩ := src_run hW hu g2 (Nat.min_le_left m n) g3
          have key : ∀ base cap w', ev x = .slice base n cap → (∀ a, base = some a → (storeCells a ys.toList).run P w = .ok () w') → (base = none → w' = w) → (Builtin.copy_ c.argTypes o.type #[ev x, ev y]).run P w = .ok (.int .i64 (Nat.min m n : Nat)) w' := fun base cap w' hx k1 k2 => by
            rw [hx]
            unfold Builtin.copy_
            simp only [h0, List.getElem?_toArray, List.getElem?_cons_zero, List.getElem?_cons_succ]
            rw [run_bind, run_underlying hd]; dsimp only
            rw [run_bind, hlm.1]; dsimp only
            rw [run_bind, run_sizeOf hz]; dsimp only
            rw [run_bind, y1 w rfl]; dsimp only
            cases base with
            | none => rw [k2 rfl]; rfl
            | some a => dsimp only; rw [run_bind, k1 a rfl]; rfl
          cases h5 : a.is 5 with
          | true =>
            rw [h5] at hq; simp only [cond_true] at hq
            obtain ⟨v1, g5, hq⟩ := seqO_some.1 hq
            injection hq with hq; injection hq with hq hq'
            subst hq; subst hq'
            obtain ⟨b, q, n', cc, t', rfl, hb, hn', hh⟩ := ha.asSl h5
            have hnn : n' = n := by unfold lenV at g1; rw [h5] at g1; simp only [cond_true] at g1; injection g1
            subst hnn
            obtain ⟨w', m1, m2, m3⟩ := write_run hW (l := cs) (ys := ys.toList) g5 hb (fun cs' j hj => ptOf_get cs _ cs' j hj) y2 (fun a ha => y3 a (Array.mem_toList_iff.1 ha))
            refine ⟨_, w', ?_, int_vr2 hk, m2, m3⟩
            rcases hh with ⟨_, hx⟩ | ⟨_, _, _, ⟨_, _, _, hx⟩ | ⟨rfl, ad, hx⟩⟩
            · exact key _ _ w' hx (fun a ha => by injection ha with ha; subst ha; exact m1) (fun q => by cases q)
            · exact key _ _ w' hx (fun a ha => by injection ha with ha; subst ha; exact m1) (fun q => by cases q)
            · have hy0 : ys.toList = [] := by
                have := y2.length
                rw [y4, show min m 0 = 0 from Nat.min_zero m, Nat.zero_mul] at this
                exact List.eq_nil_of_length_eq_zero this.symm
              rw [hy0] at m1
              have hw : w' = w := by
                have : Result.ok () w = Result.ok () w' := m1
                injection this with _ e; exact e.symm
              exact key _ _ w' hx (fun a ha => by rw [hy0, hw]; rfl) (fun q => by cases q)
          | false =>
            rw [h5] at hq; simp only [cond_false] at hq
            obtain ⟨h21, hq⟩ := ifB_some.1 hq
            injection hq with hq; injection hq with hq hq'
            subst hq; subst hq'
            rcases ha.asNil (by decide) h21 with ⟨q, _⟩ | ⟨_, hx⟩ | ⟨q, _⟩ | ⟨q, _⟩ | ⟨q, _⟩ | ⟨q, _⟩ <;> first | (exact absurd q (by decide)) | skip
            have hn0 : n = 0 := by
              unfold lenV at g1; rw [h5, h21] at g1; simp only [cond_true, cond_false] at g1; injection g1 with g1; exact g1.symm
            subst hn0
            exact ⟨_, w, key _ _ w hx (fun a ha => by cases ha) (fun _ => rfl), int_vr2 hk, hW, Stp.refl _ _ _⟩
end
end Go.Proofs.YtoffclpjhikjkaaGreat.Ev
namespace Go.Proofs.YtoffclpjhikjkaaGreat.Ev
open Go
section
variable {P : Program} {ρ : Ren} {s s' : St} {w : World} {ev : Operand → Value} {o : Oper} {c : Call}
theorem map_of {v : AW} (hW : WR P ρ v w) {a : AV} {x : Value} {es : List (AV × AV × Nat)} {ck : Nat} (ha : VR ρ a x) (h : mapOf v a = some (es, ck)) : (x = .map none ∧ es = []) ∨ ∃ b t en, a = .map b ∧ ρ b = some t ∧ x = .map (some t.blk) ∧ v.bl.get b = some (.oth (.map es ck)) ∧ w.heap[t.blk]? = some (.map en ck) ∧ MRs ρ es en.toList := by
  unfold mapOf at h
  cases h22 : a.is 22 with
  | true =>
    rw [h22] at h; simp only [cond_true] at h; injection h with h; injection h with h h'
    subst h
    rcases ha.asNil (by decide) h22 with ⟨q, _⟩ | ⟨q, _⟩ | ⟨_, hx⟩ | ⟨q, _⟩ | ⟨q, _⟩ | ⟨q, _⟩ <;> first | (exact absurd q (by decide)) | exact .inl ⟨hx, rfl⟩
  | false =>
    rw [h22] at h; simp only [cond_false] at h
    obtain ⟨h6, h⟩ := ifB_some.1 h
    obtain ⟨B, hB, h⟩ := seqO_some.1 h
    obtain ⟨b, t, rfl, hb, hx⟩ := ha.asMap h6
    cases B with
    | cells => cases h
    | oth q =>
      cases q <;> first | (cases h; done) | skip
      case map es' c' =>
        injection h with h; injection h with h h'
        subst h; subst h'
        obtain ⟨ob, k1, k2, _⟩ := hW.blk _ _ _ hB hb
        obtain ⟨en, rfl, k3⟩ := k2
        exact .inr ⟨b, t, en, rfl, hb, hx, hB, k1, k3⟩
theorem MRs.length : ∀ {l : List (AV × AV × Nat)} {m : List MapEntry}, MRs ρ l m → l.length = m.length
  | [], [], _ => rfl
  | _ :: _, _ :: _, q => by simp [MRs.length q.2.2.2]
  | [], _ :: _, q => q.elim
  | _ :: _, [], q => q.elim
theorem run_getObj {k : Nat} {ob : Obj} (h : w.heap[k]? = some ob) (hn : ∀ c e f, ob ≠ .cells c e f) : (getObj k).run P w = .ok ob w := by
  cases ob <;> first | (exact absurd rfl (hn _ _ _)) | (unfold getObj; simp only [Sem.run, h])
theorem len_sound (hW : WR P ρ s.w w) {a : AV} {x : Operand} (ho : o.op = .call c) (hc : c.callee = .builtin .len) (hargs : c.args.toList = [x]) (ha : VR ρ a (ev x)) (h : (finO o.dst).f s ((lenC P c.argTypes.toList).f s.w a) = some s') : Fin P ρ s w ev o s' := by
  refine finO_sound hW h fun r hq => ?_
  have he : execOp ev o = (do pure (Next.value (← Builtin.len_ c.argTypes o.type #[ev x]))) := by
    rw [blt_exec ho hc]
    have : c.args.map ev = #[ev x] := by
      apply Array.toList_inj.1; rw [Array.toList_map, hargs]; rfl
    rw [this]; rfl
  suffices hs : ∃ n, n < big ∧ r = .int 129 n ∧ (Builtin.len_ c.argTypes o.type #[ev x]).run P w = .ok (.int .i64 (n : Int)) w by
    obtain ⟨n, h1, rfl, h3⟩ := hs
    exact ⟨_, int_vr2 h1, by rw [he]; exact run_v h3⟩
  unfold lenC at hq
  cases hts : c.argTypes.toList with
  | nil => rw [hts] at hq; cases hq
  | cons t l =>
    rw [hts] at hq
    have h0 := one_arg hts rfl
    dsimp only at hq
    cases hd : P.underlying t with
    | none => rw [hd] at hq; cases hq
    | some d =>
      rw [hd] at hq
      cases d <;> first | (cases hq; done) | skip
      case array n e =>
        dsimp only at hq
        cases hb : Nat.blt n big with
        | false => rw [hb] at hq; cases hq
        | true =>
          rw [hb] at hq; injection hq with hq; subst hq
          rw [blt_d, decide_eq_true_eq] at hb
          refine ⟨n, hb, rfl, ?_⟩
          unfold Builtin.len_; simp only [h0, List.getElem?_toArray, List.getElem?_cons_zero]; rw [run_bind, run_underlying hd]; dsimp only
          rfl
      case string =>
        obtain ⟨h2, hq⟩ := ifB_some.1 hq
        injection hq with hq; subst hq
        obtain ⟨n, v, rfl, hn, hx⟩ := ha.asStr h2
        refine ⟨n, hn, rfl, ?_⟩
        rw [hx]; unfold Builtin.len_; simp only [h0, List.getElem?_toArray, List.getElem?_cons_zero]; rw [run_bind, run_underlying hd]; dsimp only
        show Result.ok (goInt (sb n v).size) w = _
        rw [sb_size]; rfl
      case slice e =>
        dsimp only at hq
        cases h21 : a.is 21 with
        | true =>
          rw [h21] at hq; injection hq with hq; subst hq
          rcases ha.asNil (by decide) h21 with ⟨q, _⟩ | ⟨_, hx⟩ | ⟨q, _⟩ | ⟨q, _⟩ | ⟨q, _⟩ | ⟨q, _⟩ <;> first | (exact absurd q (by decide)) | skip
          refine ⟨0, by decide, rfl, ?_⟩
          rw [hx]; unfold Builtin.len_; simp only [h0, List.getElem?_toArray, List.getElem?_cons_zero]; rw [run_bind, run_underlying hd]; dsimp only
          rfl
        | false =>
          rw [h21] at hq
          obtain ⟨h5, hq⟩ := ifB_some.1 hq
          injection hq with hq; subst hq
          obtain ⟨b, q, n, cc, t', rfl, hb, hn, hh⟩ := ha.asSl h5
          refine ⟨n, hn, rfl, ?_⟩
          rcases hh with ⟨_, hx⟩ | ⟨_, _, _, ⟨_, _, _, hx⟩ | ⟨rfl, _, hx⟩⟩ <;> (rw [hx]; unfold Builtin.len_; simp only [h0, List.getElem?_toArray, List.getElem?_cons_zero]; rw [run_bind, run_underlying hd]; dsimp only; rfl)
      case map k e =>
        dsimp only at hq
        obtain ⟨es, ck, hm, hq⟩ := seqP_some.1 hq
        obtain ⟨hb, hq⟩ := ifB_some.1 hq
        rw [blt_d, decide_eq_true_eq] at hb
        injection hq with hq; subst hq
        refine ⟨es.length, hb, rfl, ?_⟩
        rcases map_of hW ha hm with ⟨hx, rfl⟩ | ⟨b, t', en, _, _, hx, _, hw, hr⟩
        · rw [hx]; unfold Builtin.len_; simp only [h0, List.getElem?_toArray, List.getElem?_cons_zero]; rw [run_bind, run_underlying hd]; dsimp only; rfl
        · rw [hx]; unfold Builtin.len_; simp only [h0, List.getElem?_toArray, List.getElem?_cons_zero]; rw [run_bind, run_underlying hd]; dsimp only
          rw [run_bind, run_getObj hw (fun _ _ _ q => by cases q)]
          have := hr.length
          simp only [Array.length_toList] at this
          rw [this]; rfl
end
end Go.Proofs.YtoffclpjhikjkaaGreat.Ev
namespace Go.Proofs.YtoffclpjhikjkaaGreat.Ev
open Go
section
variable {P : Program} {ρ : Ren} {s s' : St} {w : World} {ev : Operand → Value} {o : Oper} {c : Call}
theorem arg1 {x : Operand} (h : c.args.toList = [x]) : c.args.map ev = #[ev x] := by
  apply Array.toList_inj.1; rw [Array.toList_map, h]; rfl
theorem arg2 {x y : Operand} (h : c.args.toList = [x, y]) : c.args.map ev = #[ev x, ev y] := by
  apply Array.toList_inj.1; rw [Array.toList_map, h]; rfl
theorem cap_sound (hW : WR P ρ s.w w) {a : AV} {x : Operand} (ho : o.op = .call c) (hc : c.callee = .builtin .cap) (hargs : c.args.toList = [x]) (ha : VR ρ a (ev x)) (h : (finO o.dst).f s ((capC P c.argTypes.toList).f s.w a) = some s') : Fin P ρ s w ev o s' := by
  refine finO_sound hW h fun r hq => ?_
  have he : execOp ev o = (do pure (Next.value (← Builtin.cap_ c.argTypes o.type #[ev x]))) := by
    rw [blt_exec ho hc, arg1 hargs]; rfl
  suffices hs : ∃ n, n < big ∧ r = .int 129 n ∧ (Builtin.cap_ c.argTypes o.type #[ev x]).run P w = .ok (.int .i64 (n : Int)) w by
    obtain ⟨n, h1, rfl, h3⟩ := hs
    exact ⟨_, int_vr2 h1, by rw [he]; exact run_v h3⟩
  unfold capC at hq
  cases hts : c.argTypes.toList with
  | nil => rw [hts] at hq; cases hq
  | cons t l =>
    rw [hts] at hq
    have h0 := one_arg hts rfl
    dsimp only at hq
    cases hd : P.underlying t with
    | none => rw [hd] at hq; cases hq
    | some d =>
      rw [hd] at hq
      cases d <;> first | (cases hq; done) | skip
      case slice e =>
        dsimp only at hq
        unfold capV at hq
        cases h21 : a.is 21 with
        | true =>
          rw [h21] at hq; injection hq with hq; subst hq
          rcases ha.asNil (by decide) h21 with ⟨q, _⟩ | ⟨_, hx⟩ | ⟨q, _⟩ | ⟨q, _⟩ | ⟨q, _⟩ | ⟨q, _⟩ <;> first | (exact absurd q (by decide)) | skip
          refine ⟨0, by decide, rfl, ?_⟩
          rw [hx]; unfold Builtin.cap_; simp only [h0, List.getElem?_toArray, List.getElem?_cons_zero]; rw [run_bind, run_underlying hd]; dsimp only
          rfl
        | false =>
          rw [h21] at hq
          simp only [cond_false] at hq
          obtain ⟨h5, hq⟩ := ifB_some.1 hq
          rw [Bool.and_eq_true, blt_d, decide_eq_true_eq] at h5
          obtain ⟨lb, g1, hq⟩ := seqO_some.1 hq
          obtain ⟨g2, hq⟩ := ifB_some.1 hq
          injection hq with hq; subst hq
          obtain ⟨b, q, n, cc, t', rfl, hb, hn, hh⟩ := ha.asSl h5.1
          refine ⟨cc, h5.2, rfl, ?_⟩
          obtain ⟨B, g3, g4⟩ := seqO_some.1 g1
          cases B with
          | oth => cases g4
          | cells cs k e' lo gp sh f hf =>
            injection g4 with g4; subst g4
            obtain ⟨C, fz, g5, g6⟩ := hW.blk _ _ _ g3 hb
            have hlo : lo = false := by cases lo <;> first | rfl | cases g2
            obtain ⟨g7, _, _⟩ := g6.ex hlo
            rcases hh with ⟨_, hx⟩ | ⟨_, _, q, _⟩
            · rw [hx]; unfold Builtin.cap_; simp only [h0, List.getElem?_toArray, List.getElem?_cons_zero]; rw [run_bind, run_underlying hd]; dsimp only
              rfl
            · rw [g7] at q; cases q
theorem complex_sound (hW : WR P ρ s.w w) {a b : AV} {x y : Operand} (ho : o.op = .call c) (hc : c.callee = .builtin .complex) (hargs : c.args.toList = [x, y]) (ha : VR ρ a (ev x)) (hb : VR ρ b (ev y)) (h12 : (a.is 12 && b.is 12) = true) (h : (fin o.dst).f s (.cx a.x b.x) = some s') : Fin P ρ s w ev o s' := by
  rw [Bool.and_eq_true] at h12
  obtain ⟨p, rfl, h1⟩ := ha.asFl h12.1
  obtain ⟨q, rfl, h2⟩ := hb.asFl h12.2
  refine fin_sound hW h (.cx p q) ?_
  rw [blt_exec ho hc, arg2 hargs, h1, h2]; rfl
theorem real_sound (hW : WR P ρ s.w w) {a : AV} {x : Operand} (ho : o.op = .call c) (hc : c.callee = .builtin .real) (hargs : c.args.toList = [x]) (ha : VR ρ a (ev x)) (h13 : a.is 13 = true) (h : (fin o.dst).f s (.fl a.x) = some s') : Fin P ρ s w ev o s' := by
  obtain ⟨p, q, rfl, h1⟩ := ha.asCx h13
  refine fin_sound hW h (.fl p) ?_
  rw [blt_exec ho hc, arg1 hargs, h1]; rfl
theorem imag_sound (hW : WR P ρ s.w w) {a : AV} {x : Operand} (ho : o.op = .call c) (hc : c.callee = .builtin .imag) (hargs : c.args.toList = [x]) (ha : VR ρ a (ev x)) (h13 : a.is 13 = true) (h : (fin o.dst).f s (.fl a.y) = some s') : Fin P ρ s w ev o s' := by
  obtain ⟨p, q, rfl, h1⟩ := ha.asCx h13
  refine fin_sound hW h (.fl q) ?_
  rw [blt_exec ho hc, arg1 hargs, h1]; rfl
end
end Go.Proofs.YtoffclpjhikjkaaGreat.Ev
namespace Go.Proofs.YtoffclpjhikjkaaGreat.Ev
open Go
section
variable {P : Program} {ρ : Ren} {s s' : St} {w : World} {ev : Operand → Value} {o : Oper} {c : Call}
theorem move_sound (hW : WR P ρ s.w w) {a : AV} {x : Operand} (ho : o.op = .move x ∨ o.op = .assign x) (ha : VR ρ a (ev x)) (h : (fin o.dst).f s a = some s') : Fin P ρ s w ev o s' := by
  refine fin_sound hW h ha ?_
  rcases ho with ho | ho <;> (unfold execOp; rw [ho]; rfl)
theorem pick_sound (hW : WR P ρ s.w w) {v a b : AV} {cx x y : Operand} (ho : o.op = .pick cx x y) (hv : VR ρ v (ev cx)) (ha : VR ρ a (ev x)) (hb : VR ρ b (ev y)) (h3 : v.is 3 = true) (h : (bif Nat.beq v.x 1 then (fin o.dst).f s a else (fin o.dst).f s b) = some s') : Fin P ρ s w ev o s' := by
  obtain ⟨q, rfl, hq⟩ := hv.asBool h3
  have he : execOp ev o = (do pure (Next.value (if ← asBool (ev cx) then ev x else ev y))) := by unfold execOp; rw [ho]
  cases q with
  | true =>
    have h' : (fin o.dst).f s a = some s' := h
    refine fin_sound hW h' ha ?_
    rw [he, hq]; rfl
  | false =>
    have h' : (fin o.dst).f s b = some s' := h
    refine fin_sound hW h' hb ?_
    rw [he, hq]; rfl
theorem mkI_sound (hW : WR P ρ s.w w) {a : AV} {x : Operand} {t : TypeId} {d : TypeDesc} (ho : o.op = .makeInterface t x) (hd : P.underlying t = some d) (hi : ∀ ms, d ≠ .interface ms) (ha : VR ρ a (ev x)) (h : (fin o.dst).f s (.ifc t a) = some s') : Fin P ρ s w ev o s' := by
  refine fin_sound hW h (.ifc t a _ ha) ?_
  have he : execOp ev o = (do pure (Next.value (← Instr.makeInterface t (ev x)))) := by unfold execOp; rw [ho]
  rw [he]
  refine run_v ?_
  unfold Instr.makeInterface
  rw [run_bind, run_underlying hd]; dsimp only
  cases d <;> first | rfl | exact absurd rfl (hi _)
theorem mkF_sound (hW : WR P ρ s.w w) {g : Nat} {K : Operand → Bool} {a b : Array Operand} (hev : EvOk ρ K s.tm ev) (ho : o.op = .makeFunc (.func g) a b) (h1 : a.toList.all (K) = true) (h2 : b.toList.all (K) = true) (h : (fin o.dst).f s (.fn g ((args a.toList).f s.tm) ((args b.toList).f s.tm)) = some s') : Fin P ρ s w ev o s' := by
  refine fin_sound hW h (.fn g _ _ (a.map ev) (b.map ev) ?_ ?_) ?_
  · rw [Array.toList_map]; exact args_vr hev _ h1
  · rw [Array.toList_map]; exact args_vr hev _ h2
  · unfold execOp; rw [ho]; rfl
theorem slD_sound (hW : WR P ρ s.w w) {a : AV} {x : Operand} (ho : o.op = .call c) (hc : c.callee = .builtin .unsafeSliceData) (hargs : c.args.toList = [x]) (ha : VR ρ a (ev x)) (h : (bif a.is 21 then (fin o.dst).f s (.nl 20) else ifB (a.is 5 && !Nat.beq a.z 0) ((fin o.dst).f s (.ptr a.x a.y))) = some s') : Fin P ρ s w ev o s' := by
  have he : execOp ev o = (do pure (Next.value (← Builtin.unsafeSliceData_ c.argTypes o.type #[ev x]))) := by
    rw [blt_exec ho hc, arg1 hargs]; rfl
  cases h21 : a.is 21 with
  | true =>
    rw [h21] at h; simp only [cond_true] at h
    rcases ha.asNil (by decide) h21 with ⟨q, _⟩ | ⟨_, hx⟩ | ⟨q, _⟩ | ⟨q, _⟩ | ⟨q, _⟩ | ⟨q, _⟩ <;> first | (exact absurd q (by decide)) | skip
    refine fin_sound hW h .nilP ?_
    rw [he, hx]; rfl
  | false =>
    rw [h21] at h; simp only [cond_false] at h
    obtain ⟨h5, h⟩ := ifB_some.1 h
    rw [Bool.and_eq_true] at h5
    obtain ⟨b, q, n, cc, t', rfl, hb, hn, hh⟩ := ha.asSl h5.1
    have hn0 : n ≠ 0 := fun e => by subst e; exact absurd (show (!Nat.beq 0 0) = true from h5.2) (by decide)
    have key : ∀ d, d ≠ 0 → ev x = .slice (some ⟨t'.blk, t'.sh + q, none⟩) n d → Fin P ρ s w ev o s' := fun d hd hx => by
      refine fin_sound hW h (.ptr b q t' hb) ?_
      rw [he, hx]
      refine run_v ?_
      show Sem.run P (if d ≠ 0 then pure (Value.pointer (some ⟨t'.blk, t'.sh + q, none⟩)) else _) w = _
      rw [if_pos hd]; rfl
    rcases hh with ⟨g, hx⟩ | ⟨_, _, _, ⟨d, h1, _, hx⟩ | ⟨rfl, _, hx⟩⟩
    · refine key _ ?_ hx
      have hle := ha.slE_le hb g
      omega
    · exact key d (by omega) hx
    · exact absurd rfl hn0
end
end Go.Proofs.YtoffclpjhikjkaaGreat.Ev
namespace Go.Proofs.YtoffclpjhikjkaaGreat.Ev
open Go
section
variable {P : Program} {ρ : Ren} {s s' : St} {w : World} {ev : Operand → Value} {o : Oper} {c : Call}
theorem run_newObj (ob : Obj) : (newObj ob).run P w = .ok w.heap.size { w with heap := w.heap.push ob } := rfl
/-- a new object that is no row of cells -/
theorem oth_add {v v' : AW} (hW : WR P ρ v w) {q : Oth} {b : Nat} (h : v.new (fun _ => .oth q) false = some (b, v')) {ob : Obj} (hq : ∀ σ : Ren, ρ.le σ → OR σ q ob) :
    WR P (ρ.add b ⟨w.heap.size, 0, none⟩) v' { w with heap := w.heap.push ob } ∧ Stp ρ v w (ρ.add b ⟨w.heap.size, 0, none⟩) v' { w with heap := w.heap.push ob } := by
  obtain ⟨h1, rfl, h3, h4, h5⟩ := new_some h
  rw [if_neg (by decide)] at h5
  exact hW.add (B := .oth q) (ob := ob) rfl rfl rfl rfl rfl h3 h4 h1 (fun w1 hw1 => ⟨ob, hw1, hq _ (Ren.add_le (new_none hW)), rfl⟩) (.inl ⟨q, rfl, h5⟩)
theorem mkM_sound (hW : WR P ρ s.w w) {t : TypeId} {r : Option Operand} (ho : o.op = .makeMap t r) (hr : ∀ x, r = some x → (∃ k e, P.underlying t = some (.map k e)) ∧ ∃ k n, ev x = .int k n) (h : (finW o.dst).f s (seqP (s.w.new (fun _ => .oth (.map [] 0)) false) fun b w => some (.map b, w)) = some s') : Fin P ρ s w ev o s' := by
  refine finW_sound h (fun u v' hq => ?_) (.inl (by rw [ho]; rfl))
  obtain ⟨b, v1, h1, h2⟩ := seqP_some.1 hq
  injection h2 with h2; injection h2 with h2 h3
  subst h2; subst h3
  obtain ⟨h4, h5⟩ := oth_add (ob := .map #[] 0) hW h1 (fun σ _ => ⟨#[], rfl, trivial⟩)
  have he : execOp ev o = (do pure (Next.value (← Instr.makeMap t (r.map ev)))) := by unfold execOp; rw [ho]
  refine ⟨_, .map (some w.heap.size), _, ?_, .map b ⟨w.heap.size, 0, none⟩ (Ren.add_same _ _ _), h4, h5⟩
  rw [he]
  refine run_v ?_
  unfold Instr.makeMap
  cases r with
  | none => rfl
  | some x =>
    obtain ⟨⟨k, e, hd⟩, k', n, hx⟩ := hr x rfl
    simp only [Option.map_some, hx]
    rw [run_bind, run_underlying hd]; dsimp only
    rfl
end
end Go.Proofs.YtoffclpjhikjkaaGreat.Ev
namespace Go.Proofs.YtoffclpjhikjkaaGreat.Ev
open Go
section
variable {P : Program} {ρ : Ren} {s s' : St} {w : World} {ev : Operand → Value} {o : Oper} {c : Call}
theorem wrap_small {n : Nat} (h : n < 9223372036854775808) : IntKind.i64.wrap (n : Int) = (n : Int) := by
  show (let m := (n : Int) % (2 ^ 64 : Int); if (true && decide (m ≥ (2 ^ 63 : Int))) = true then m - (2 ^ 64 : Int) else m) = n
  have e : (n : Int) % (2 ^ 64 : Int) = n := Int.emod_eq_of_lt (by omega) (by omega)
  simp only [e]
  rw [if_neg (by simp; omega)]
theorem ms_sound (hW : WR P ρ s.w w) {t e : TypeId} {l cx : Operand} {a b : AV} {n k : Nat} {z : AV} {zc : List AV} (ho : o.op = .makeSlice t l cx) (hd : P.underlying t = some (.slice e)) (hsz : sizeOf P e = some (n + 1)) (hk : bytesOf P e = some k) (hk1 : k < 65536) (hz : zero P e = some z) (hzc : z.cells = some zc) (hzl : zc.length = n + 1) (ha : VR ρ a (ev l)) (hb : VR ρ b (ev cx)) (h : (finW o.dst).f s (msV s.w e zc a b) = some s') : Fin P ρ s w ev o s' := by
  refine finW_sound h (fun u v' hq => ?_) (.inl (by rw [ho]; rfl))
  unfold msV at hq
  obtain ⟨h1, hq⟩ := ifB_some.1 hq
  rw [Bool.and_eq_true, Bool.and_eq_true, Bool.and_eq_true, ble_d, blt_d, decide_eq_true_eq, decide_eq_true_eq] at h1
  obtain ⟨⟨⟨i1, i2⟩, i3⟩, i4⟩ := h1
  obtain ⟨bb, v1, q1, q2⟩ := seqP_some.1 hq
  injection q2 with q2; injection q2 with q2 q3
  subst q2; subst q3
  obtain ⟨k1, e1⟩ := idx_val ha i1 (by omega)
  obtain ⟨k2, e2⟩ := idx_val hb i2 (by omega)
  obtain ⟨it, hi1, hi2⟩ := Option.map_eq_some_iff.1 hk
  obtain ⟨zv, z1, z2⟩ := run_zero (ρ := ρ) (w := w) hz
  obtain ⟨z3, z4⟩ := cells_vr z2 hzc
  have hzs : zv.cells.size = n + 1 := by have := z3.length; simp only [Array.length_toList] at this; omega
  have he : execOp ev o = (do pure (Next.value (← Instr.makeSlice t (ev l) (ev cx)))) := by unfold execOp; rw [ho]
  have key : ∀ R : Array Value, R.toList = Ev.repl zv.cells.toList b.y → (Instr.makeSlice t (ev l) (ev cx)).run P w = .ok (.slice (some ⟨w.heap.size, 0, none⟩) a.y b.y) { w with heap := w.heap.push (.cells R e) } →
      ∃ σ y w', (execOp ev o).run P w = .ok (.value y) w' ∧ VR σ (.sl bb 0 a.y b.y) y ∧ WR P σ v1 w' ∧ Stp ρ s.w w σ v1 w' := fun R hR hrun => by
    obtain ⟨t1, w', g1, rfl, rfl, g2, g3⟩ := row_exact hW q1 (ys := R) (by rw [hR]; exact VRs.repl z3 b.y) (fun y hy => by
      have : y ∈ R.toList := Array.mem_toList_iff.2 hy
      rw [hR] at this
      exact z4 y (Array.mem_toList_iff.1 (repl_mem this)))
    have hw' : w' = { w with heap := w.heap.push (.cells R e) } := by
      have := run_newRow (P := P) (w := w) e R
      rw [g1] at this; injection this
    refine ⟨_, _, w', by rw [he, hw']; exact run_v hrun, .slE _ 0 a.y b.y _ (Ren.add_same _ _ _) rfl (by unfold big; omega) i3, g2, g3⟩
  have hmul : ((it.bytes : Int) * (b.y : Int)) ≤ 65536000000 := by
    have h7 : it.bytes * b.y ≤ 65536 * 1000000 := Nat.mul_le_mul (by omega) (by omega)
    have h8 := Int.ofNat_le.2 h7
    rw [Int.natCast_mul] at h8
    exact h8
  have ai : ∀ k n, (asInt (.int k n)).run P w = .ok n w := fun _ _ => rfl
  have hc : ¬ ((decide ((b.y : Int) < 0) || decide ((it.bytes : Int) * (b.y : Int) > 2 ^ 48) || decide ((a.y : Int) < 0) || decide ((a.y : Int) > (b.y : Int))) = true) := by
    intro q
    rw [Bool.or_eq_true, Bool.or_eq_true, Bool.or_eq_true] at q
    have h48 : (65536000000 : Int) ≤ 2 ^ 48 := by decide
    rcases q with ((q | q) | q) | q
    · have := of_decide_eq_true q; omega
    · exact absurd (Int.le_trans hmul h48) (Int.not_le.2 (of_decide_eq_true q))
    · have := of_decide_eq_true q; omega
    · have := of_decide_eq_true q; omega
  have pre : ∀ r : Result Value, (if b.y * (n + 1) = 0 then do
                let zero ← pure #[]
                let x ← newRow e (Array.map (fun x => zero[x % zero.size]!) (Array.range (b.y * (n + 1))))
                pure (Value.slice (some x) a.y b.y)
              else do
                let z ← zeroValue e
                let zero ← pure z.cells
                let x ← newRow e (Array.map (fun x => zero[x % zero.size]!) (Array.range (b.y * (n + 1))))
                pure (Value.slice (some x) a.y b.y) : Sem Value).run P w = r → (Instr.makeSlice t (ev l) (ev cx)).run P w = r := fun r hr => by
    unfold Instr.makeSlice
    rw [run_bind, run_underlying hd]; dsimp only
    rw [e1, e2]
    rw [run_bind, ai]; dsimp only
    rw [run_bind, ai]; dsimp only
    rw [run_bind, run_typeInfo hi1]; dsimp only
    rw [wrap_small (by omega), wrap_small (by omega)]
    rw [if_neg hc, run_bind, run_room]; dsimp only
    rw [run_bind, run_sizeOf hsz]; dsimp only
    simp only [Int.toNat_natCast]
    exact hr
  by_cases h0 : b.y * (n + 1) = 0
  · have hb0 : b.y = 0 := by rcases Nat.mul_eq_zero.1 h0 with q | q; exact q; omega
    refine key #[] (by rw [hb0]; rfl) (pre _ ?_)
    rw [if_pos h0]
    rw [run_bind, run_pure]; dsimp only
    have e2 : ((Array.range (b.y * (n + 1))).map fun x => (#[] : Array Value)[x % (#[] : Array Value).size]!) = #[] := by rw [h0]; simp
    rw [e2, run_bind, run_newRow]; rfl
  · refine key _ (zero_row (n := b.y) hzs) (pre _ ?_)
    rw [if_neg h0]
    rw [run_bind, z1]; dsimp only
    rw [run_bind, run_pure]; dsimp only
    rw [run_bind, run_newRow]; rfl
end
end Go.Proofs.YtoffclpjhikjkaaGreat.Ev
namespace Go.Proofs.YtoffclpjhikjkaaGreat.Ev
open Go
section
variable {P : Program} {ρ : Ren} {s s' : St} {w : World} {ev : Operand → Value} {o : Oper} {c : Call}
theorem min_run {k : IntKind} : ∀ (l : List AV) (xs : List Value) (a r : Nat), VRs ρ l xs → a < km k → minL k a l = some r → (xs.foldlM Builtin.min2 (.int k (toInt k a))).run P w = .ok (.int k (toInt k r)) w ∧ r < km k
  | [], _, a, r, .nil, ha, h => by
    injection h with h; subst h; exact ⟨rfl, ha⟩
  | v :: l, _, a, r, .cons _ x _ xs hv hs, ha, h => by
    obtain ⟨h1, h⟩ := ifB_some.1 h
    rw [Bool.and_eq_true, beq_t] at h1
    obtain ⟨k2, n, rfl, hn, rfl⟩ := hv.asInt h1.1
    have : k2 = k := kc_inj h1.2
    subst this
    dsimp only at h
    have e : (if toInt k2 n < toInt k2 a then toInt k2 n else toInt k2 a) = toInt k2 (bif Nat.blt (cmpI k2 n) (cmpI k2 a) then n else a) := by
      cases hb : Nat.blt (cmpI k2 n) (cmpI k2 a) with
      | true =>
        rw [blt_d, decide_eq_true_eq] at hb
        rw [if_pos ((toInt_lt hn ha).2 hb)]; rfl
      | false =>
        rw [blt_d, decide_eq_false_iff_not] at hb
        rw [if_neg (fun q => hb ((toInt_lt hn ha).1 q))]; rfl
    have hm : (bif Nat.blt (cmpI k2 n) (cmpI k2 a) then n else a) < km k2 := by cases Nat.blt (cmpI k2 n) (cmpI k2 a) <;> assumption
    obtain ⟨h3, h4⟩ := min_run l xs _ r hs hm h
    refine ⟨?_, h4⟩
    rw [List.foldlM_cons, run_bind]
    have h5 : (Builtin.min2 (.int k2 (toInt k2 a)) (.int k2 (toInt k2 n))).run P w = .ok (.int k2 (toInt k2 (bif Nat.blt (cmpI k2 n) (cmpI k2 a) then n else a))) w := by
      rw [← e]; rfl
    rw [h5]; exact h3
theorem max_run {k : IntKind} : ∀ (l : List AV) (xs : List Value) (a r : Nat), VRs ρ l xs → a < km k → maxL k a l = some r → (xs.foldlM Builtin.max2 (.int k (toInt k a))).run P w = .ok (.int k (toInt k r)) w ∧ r < km k
  | [], _, a, r, .nil, ha, h => by
    injection h with h; subst h; exact ⟨rfl, ha⟩
  | v :: l, _, a, r, .cons _ x _ xs hv hs, ha, h => by
    obtain ⟨h1, h⟩ := ifB_some.1 h
    rw [Bool.and_eq_true, beq_t] at h1
    obtain ⟨k2, n, rfl, hn, rfl⟩ := hv.asInt h1.1
    have : k2 = k := kc_inj h1.2
    subst this
    dsimp only at h
    have e : (if toInt k2 n > toInt k2 a then toInt k2 n else toInt k2 a) = toInt k2 (bif Nat.blt (cmpI k2 a) (cmpI k2 n) then n else a) := by
      cases hb : Nat.blt (cmpI k2 a) (cmpI k2 n) with
      | true =>
        rw [blt_d, decide_eq_true_eq] at hb
        rw [if_pos ((toInt_lt ha hn).2 hb)]; rfl
      | false =>
        rw [blt_d, decide_eq_false_iff_not] at hb
        rw [if_neg (fun q => hb ((toInt_lt ha hn).1 q))]; rfl
    have hm : (bif Nat.blt (cmpI k2 a) (cmpI k2 n) then n else a) < km k2 := by cases Nat.blt (cmpI k2 a) (cmpI k2 n) <;> assumption
    obtain ⟨h3, h4⟩ := max_run l xs _ r hs hm h
    refine ⟨?_, h4⟩
    rw [List.foldlM_cons, run_bind]
    have h5 : (Builtin.max2 (.int k2 (toInt k2 a)) (.int k2 (toInt k2 n))).run P w = .ok (.int k2 (toInt k2 (bif Nat.blt (cmpI k2 a) (cmpI k2 n) then n else a))) w := by
      rw [← e]; rfl
    rw [h5]; exact h3
end
end Go.Proofs.YtoffclpjhikjkaaGreat.Ev
namespace Go.Proofs.YtoffclpjhikjkaaGreat.Ev
open Go
section
variable {P : Program} {ρ : Ren} {s s' : St} {w : World} {ev : Operand → Value} {o : Oper} {c : Call}
theorem kOf_kc (k : IntKind) : kOf (kc k) = k := by cases k <;> rfl
theorem mm_sound (hW : WR P ρ s.w w) {K : Operand → Bool} {mx : Bool} (hev : EvOk ρ K s.tm ev) (ho : o.op = .call c) (hc : c.callee = .builtin (if mx = true then .max else .min)) (hp : c.args.toList.all (K) = true) (h : (finO o.dst).f s (mmV mx ((args c.args.toList).f s.tm)) = some s') : Fin P ρ s w ev o s' := by
  refine finO_sound hW h fun u hu => ?_
  have hv := args_vr hev _ hp
  rw [← Array.toList_map] at hv
  generalize hA : c.args.map ev = A at hv
  unfold mmV at hu
  cases hl : (args c.args.toList).f s.tm with
  | nil => rw [hl] at hu; cases hu
  | cons v l =>
    rw [hl] at hu hv
    dsimp only at hu
    obtain ⟨h1, hu⟩ := ifB_some.1 hu
    obtain ⟨r, h2, hu⟩ := seqO_some.1 hu
    injection hu with hu; subst hu
    generalize hX : A.toList = X at hv
    cases hv with
    | cons _ x _ xs hv hs =>
      obtain ⟨k, n, rfl, hn, rfl⟩ := hv.asInt h1
      rw [show (AV.int (kc k) n).x = kc k from rfl, kOf_kc] at h2
      cases mx with
      | true =>
        obtain ⟨h3, h4⟩ := max_run (P := P) (w := w) l xs n r hs hn h2
        refine ⟨_, .int k r h4, ?_⟩
        rw [blt_exec ho hc, hA]
        show ((do pure (Next.value (← Builtin.max_ c.argTypes o.type A)) : Sem Next)).run P w = _
        refine run_v ?_
        unfold Builtin.max_; rw [hX]; exact h3
      | false =>
        obtain ⟨h3, h4⟩ := min_run (P := P) (w := w) l xs n r hs hn h2
        refine ⟨_, .int k r h4, ?_⟩
        rw [blt_exec ho hc, hA]
        show ((do pure (Next.value (← Builtin.min_ c.argTypes o.type A)) : Sem Next)).run P w = _
        refine run_v ?_
        unfold Builtin.min_; rw [hX]; exact h3
end
end Go.Proofs.YtoffclpjhikjkaaGreat.Ev
namespace Go.Proofs.YtoffclpjhikjkaaGreat.Ev
open Go
section
variable {P : Program} {ρ : Ren} {s s' : St} {w : World} {ev : Operand → Value} {o : Oper} {c : Call}
theorem ta_sound (hW : WR P ρ s.w w) {a u : AV} {x : Operand} {xt t : TypeId} {d : TypeDesc} (ho : o.op = .typeAssert x xt t false) (hd : P.underlying t = some d) (hi : ∀ ms, d ≠ .interface ms) (ha : VR ρ a (ev x)) (h11 : (a.is 11 && Nat.beq a.x t) = true) (hl : a.l = [u]) (h : (fin o.dst).f s u = some s') : Fin P ρ s w ev o s' := by
  rw [Bool.and_eq_true, beq_t] at h11
  obtain ⟨t', v, y, rfl, hx, hv⟩ := ha.asIfc h11.1
  have e1 : v = u := by
    have : [v] = [u] := hl
    injection this
  subst e1
  have e2 : t' = t := h11.2
  subst e2
  have he : execOp ev o = (do pure (Next.value (← Instr.typeAssert (ev x) xt t' false))) := by unfold execOp; rw [ho]
  refine fin_sound hW h hv ?_
  rw [he]
  refine run_v ?_
  unfold Instr.typeAssert
  rw [run_bind, run_underlying hd, hx]; dsimp only
  cases d <;> first | exact absurd rfl (hi _) | (simp)
end
end Go.Proofs.YtoffclpjhikjkaaGreat.Ev
namespace Go.Proofs.YtoffclpjhikjkaaGreat.Ev
open Go
/-- no fence; activations of functions, or rounds of a loop -/
def FW (rd : Option Nat) : Fence := { fn := fun _ => True, depth := none, alive := false, round := rd }
theorem FW_room (rd : Option Nat) (n : Nat) : (FW rd).room n := fun _ h => by simp [FW] at h
def RndOk (ρ : Ren) (r rd : Option Nat) : Prop := (r = none ∧ rd = none) ∨ ∃ l t, r = some l ∧ ρ l = some t ∧ rd = some t.blk
theorem RndOk.mono {ρ σ : Ren} (h : ρ.le σ) {r rd : Option Nat} (q : RndOk ρ r rd) : RndOk σ r rd := by
  rcases q with q | ⟨l, t, h1, h2, h3⟩
  · exact .inl q
  · exact .inr ⟨l, t, h1, h _ _ h2, h3⟩
structure SR (P : Program) (ρ : Ren) (rd : Option Nat) (nt : Nat) (s : St) (a : Act) (w : World) : Prop where
  sz : a.tmps.size = nt
  tm : TR ρ s.tm a.tmps
  ds : DRs ρ s.ds a.defers
  wr : WR P ρ s.w w
  rnd : RndOk ρ s.rnd rd
/-- an operation's own operands -/
def opd (nt : Nat) (o : Oper) (x : Operand) : Bool := tOk nt x && (match x with | .tmp t => o.op.operands.toList.any fun y => (match y with | .tmp u => Nat.beq t u | _ => false) | _ => true)
/-- what an operation does, whatever comes of it -/
def OpS (P : Program) (rec : Rec) (nt : Nat) (o : Oper) : Prop := ∀ (ρ : Ren) (rd : Option Nat) (s s' : St) (a : Act) (w : World), (opC P nt o).f rec s = some s' → WR P ρ s.w w → EvOk ρ (opd nt o) s.tm a.eval →
  ∀ (next : Act → World → Prop) (Q : Exit → Act → World → Prop), (∀ (x : AV) (v : AW) (σ : Ren) (y : Value) (w' : World), s' = ⟨(putK o.dst).f s.tm x, s.ds, v, s.rnd, s.df⟩ → VR σ x y → WR P σ v w' → Stp ρ s.w w σ v w' → (lookK o.op = true → (v = s.w ∧ w' = w ∧ σ = ρ) ∨ s.w.nx < v.nx) → next (a.put o.dst y) w') →
  o.uponIn (FW rd) 0 P a next Q ((o.semAt rd a.eval).run P w)
section
variable {P : Program} {rec : Rec} {nt : Nat} {rd : Option Nat}
theorem act_evOk {ρ : Ren} {tm : TM} {a : Act} (h : TR ρ tm a.tmps) : EvOk ρ (tOk a.tmps.size) tm a.eval := fun x k => by
  have := evOk_frame (fr := { (default : Frame) with tmps := a.tmps }) (tm := tm) h x k
  cases x <;> exact this
theorem opd_tOk {o : Oper} {x : Operand} (h : opd nt o x = true) : tOk nt x = true := by
  unfold opd at h; rw [Bool.and_eq_true] at h; exact h.1
theorem putK_some (d : Tmp) (tm : TM) (x : AV) : (putK (some d)).f tm x = (setp D d).f tm x := rfl
theorem TR.putK {ρ : Ren} {tm : TM} {a : Act} (h : TR ρ tm a.tmps) {d : Option Tmp} {v : AV} {x : Value} (hv : VR ρ v x) (hd : dOk a.tmps.size d = true) : TR ρ ((putK d).f tm v) (a.put d x).tmps := by
  cases d with
  | none => exact h
  | some d =>
    have : d < a.tmps.size := by
      have : Nat.blt d a.tmps.size = true := hd
      rw [blt_d, decide_eq_true_eq] at this; exact this
    exact h.put hv (Nat.lt_of_lt_of_le this h.1)
theorem put_size {a : Act} (d : Option Tmp) (x : Value) : (a.put d x).tmps.size = a.tmps.size := by
  cases d <;> simp [Act.put]
theorem put_defers {a : Act} (d : Option Tmp) (x : Value) : (a.put d x).defers = a.defers := by
  cases d <;> rfl
theorem opC_ok {o : Oper} {s s' : St} (h : (opC P nt o).f rec s = some s') : opOk nt o = true ∧ (compOp P o).f rec s = some s' := by
  unfold opC at h
  cases ho : opOk nt o with
  | false => rw [ho] at h; cases h
  | true => rw [ho] at h; exact ⟨rfl, h⟩
/-- is it wanted -/
theorem gd_run {ops : Array Oper} {o : Oper} {tm : TM} {ρ : Ren} {tmps : Array Value} {b : Bool}
    (hG : ∀ j want oj d, o.guard = some (j, want) → ops[j]? = some oj → oj.dst = some d → d < nt → ∃ x, tmps[d]? = some x ∧ VR ρ (tget tm d) x)
    (h : (guardK nt ops.toList o).f tm = some b) : Region.wanted o (yielded ops tmps) = b := by
  unfold guardK at h
  unfold Region.wanted yielded
  cases hg : o.guard with
  | none => rw [hg] at h; injection h
  | some q =>
    obtain ⟨j, want⟩ := q
    rw [hg] at h
    dsimp only at h ⊢
    rw [lget_eq, Array.getElem?_toList] at h
    cases hj : ops[j]? with
    | none => rw [hj] at h; cases h
    | some oj =>
      rw [hj] at h
      simp only [Option.bind_some] at h ⊢
      cases hd : oj.dst with
      | none => rw [hd] at h; cases h
      | some d =>
        rw [hd] at h
        dsimp only at h
        cases hb : Nat.blt d nt with
        | false => rw [hb] at h; cases h
        | true =>
          rw [hb] at h
          rw [blt_d, decide_eq_true_eq] at hb
          obtain ⟨x, hx, hv⟩ := hG j want oj d hg hj hd hb
          simp only [cond_true] at h
          simp only [Option.bind_some, hx]
          have h' : (bif (tget tm d).is 3 then some (Nat.beq (tget tm d).x (bif want then 1 else 0)) else bif (tget tm d).is 0 then none else some false) = some b := h
          cases h3 : (tget tm d).is 3 with
          | true =>
            rw [h3] at h'
            obtain ⟨c, hc, rfl⟩ := hv.asBool h3
            rw [hc] at h'
            simp only [cond_true] at h'
            injection h' with h'
            cases c <;> cases want <;> (rw [← h']; rfl)
          | false =>
            rw [h3] at h'
            simp only [cond_false] at h'
            cases h0 : (tget tm d).is 0 with
            | true => rw [h0] at h'; cases h'
            | false =>
              rw [h0] at h'
              simp only [cond_false] at h'
              injection h' with h'
              subst h'
              generalize tget tm d = u at hv h3 h0
              cases hv <;> first | rfl | (cases h3; done) | (cases h0; done)
/-- one operation of a region -/
theorem opG_step {ops : Array Oper} {i : Nat} {o : Oper} {s s' : St} {ρ : Ren} {a : Act} {w : World} (hi : ops[i]? = some o) (hO : OpS P rec nt o) (h : (opG P nt ops.toList o).f rec s = some s') (hW : WR P ρ s.w w) (hE : EvOk ρ (opd nt o) s.tm a.eval)
    (hG : ∀ j want oj d, o.guard = some (j, want) → ops[j]? = some oj → oj.dst = some d → d < nt → ∃ x, a.tmps[d]? = some x ∧ VR ρ (tget s.tm d) x)
    (K : Act → World → Prop) (Q : Exit → Act → World → Prop)
    (hK : ∀ (x : AV) (v : AW) (σ : Ren) (y : Value) (w' : World), s' = ⟨(putK o.dst).f s.tm x, s.ds, v, s.rnd, s.df⟩ → dOk nt o.dst = true → VR σ x y → WR P σ v w' → Stp ρ s.w w σ v w' → (lookK o.op = true → (v = s.w ∧ w' = w ∧ σ = ρ) ∨ s.w.nx < v.nx) → K (a.put o.dst y) w') : wpOpIn (FW rd) 0 P ops Q i K a w := by
  have main : Region.wanted o (yielded ops a.tmps) = true → (opC P nt o).f rec s = some s' → wpOpIn (FW rd) 0 P ops Q i K a w := fun hw hc => by
    unfold wpOpIn
    rw [hi]; dsimp only
    rw [hw, if_pos rfl]
    obtain ⟨h1, _⟩ := opC_ok hc
    unfold opOk at h1
    rw [Bool.and_eq_true] at h1
    exact ⟨fun _ _ => trivial, hO ρ rd s s' a w hc hW hE K Q fun x v σ y w' e1 e2 e3 e4 e5 => hK x v σ y w' e1 h1.1 e2 e3 e4 e5⟩
  unfold opG at h
  cases hg : o.guard with
  | none =>
    rw [hg] at h
    exact main (by unfold Region.wanted; rw [hg]) h
  | some q =>
    rw [hg] at h
    dsimp only at h
    cases hd : dOk nt o.dst with
    | false => rw [hd] at h; cases h
    | true =>
      rw [hd] at h
      simp only [cond_true] at h
      obtain ⟨b, hb, h⟩ := seqO_some.1 h
      have hw := gd_run hG hb
      cases b with
      | true => exact main hw h
      | false =>
        simp only [cond_false] at h
        injection h with h
        unfold wpOpIn
        rw [hi]; dsimp only
        rw [hw, if_neg (by decide)]
        exact ⟨fun _ _ => trivial, hK .undef s.w ρ undef w h.symm hd .undef hW (Stp.refl _ _ _) fun _ => .inl ⟨rfl, rfl, rfl⟩⟩
/-- a region in its listed order -/
theorem guard_of {ops : Array Oper} {o : Oper} {s : St} {ρ : Ren} {a : Act} (h : TR ρ s.tm a.tmps) (hs : a.tmps.size = nt) : ∀ j want oj d, o.guard = some (j, want) → ops[j]? = some oj → oj.dst = some d → d < nt → ∃ x, a.tmps[d]? = some x ∧ VR ρ (tget s.tm d) x := fun j want oj d _ _ _ hd => by
  have hd' : d < a.tmps.size := by rw [hs]; exact hd
  have : a.tmps[d]? = some a.tmps[d] := Array.getElem?_eq_getElem hd'
  exact ⟨_, this, h.2 _ _ this⟩
theorem ops_sound {ops : Array Oper} (hop : ∀ o ∈ ops.toList, OpS P rec nt o) (Q : Exit → Act → World → Prop) : ∀ (n i : Nat), i + n = ops.size → ∀ (ρ : Ren) (s s' : St) (a : Act) (w : World), (compOps P nt ops.toList (ops.toList.drop i)).f rec s = some s' → SR P ρ rd nt s a w →
    (∀ σ a' w', SR P σ rd nt s' a' w' → Stp ρ s.w w σ s'.w w' → Q .normal a' w') → wpOpsIn (FW rd) 0 P ops Q (List.range' i n) a w
  | 0, i, hn, ρ, s, s', a, w, h, hS, hQ => by
    rw [List.drop_eq_nil_of_le (by simp; omega)] at h
    injection h with h; subst h
    exact hQ ρ a w hS (Stp.refl _ _ _)
  | n + 1, i, hn, ρ, s, s', a, w, h, hS, hQ => by
    have hi : i < ops.size := by omega
    have hd : ops.toList.drop i = ops[i] :: ops.toList.drop (i + 1) := by
      rw [List.drop_eq_getElem_cons (by simpa using hi)]; simp
    rw [hd] at h
    obtain ⟨s1, h1, h2⟩ := seqO_some.1 h
    rw [List.range'_succ, wpOpsIn_cons]
    have hio : ops[i]? = some ops[i] := Array.getElem?_eq_getElem hi
    refine opG_step hio (hop _ (by simp)) h1 hS.wr (fun x hx => act_evOk hS.tm x (by rw [hS.sz]; exact opd_tOk hx)) (guard_of hS.tm hS.sz) _ _ fun x v σ y w' e1 e2 e3 e4 e5 e6 => ?_
    subst e1
    have hS' : SR P σ rd nt ⟨(putK ops[i].dst).f s.tm x, s.ds, v, s.rnd, s.df⟩ (a.put ops[i].dst y) w' := ⟨by rw [put_size]; exact hS.sz, (hS.tm.mono e5.le).putK e3 (by rw [hS.sz]; exact e2), by rw [put_defers]; exact hS.ds.mono e5.le, e4, hS.rnd.mono e5.le⟩
    exact ops_sound hop Q n (i + 1) (by omega) σ _ s' _ w' h2 hS' fun τ a' w'' k1 k2 => hQ τ a' w'' k1 (e5.trans k2)
theorem region_sound {ops : Array Oper} {id : Nat} (hop : ∀ o ∈ ops.toList, OpS P rec nt o) {Q : Exit → Act → World → Prop} {ρ : Ren} {s s' : St} {a : Act} {w : World} (h : (compOps P nt ops.toList ops.toList).f rec s = some s') (hS : SR P ρ rd nt s a w)
    (hQ : ∀ σ a' w', SR P σ rd nt s' a' w' → Stp ρ s.w w σ s'.w w' → Q .normal a' w') : (Code.region id ops false).wpIn (FW rd) 0 P Q a w := by
  refine wpIn_region ?_
  rw [List.range_eq_range']
  exact ops_sound hop Q ops.size 0 (by omega) ρ s s' a w h hS hQ
end
end Go.Proofs.YtoffclpjhikjkaaGreat.Ev
namespace Go.Proofs.YtoffclpjhikjkaaGreat.Ev
open Go
/-- an allocation, whatever the memory -/
def AlF (P : Program) (nx : Nat) (o : Oper) (x : AV) (B : Blk) (ρ : Ren) (w : World) (ev : Operand → Value) : Prop :=
  ∃ ob y, (execOp ev o).run P w = .ok (.value y) { w with heap := w.heap.push ob } ∧ ∀ σ : Ren, ρ.le σ → σ nx = some ⟨w.heap.size, 0, none⟩ → VR σ x y ∧ ∀ w1 : World, w1.heap[w.heap.size]? = some ob → BR P σ w1 ⟨w.heap.size, 0, none⟩ B
def AlB (nx : Nat) (B : Blk) (c : Bool) : Prop := (∃ q, B = .oth q ∧ c = false) ∨ (∃ cs n e, B = .cells cs n e false nx 0 0 0 ∧ c = true)
def AlOf (P : Program) (K : Operand → Bool) (o : Oper) (s s' : St) : Prop :=
  ∃ (B : Blk) (c : Bool) (x : AV) (v : AW), s.w.new (fun _ => B) c = some (s.w.nx, v) ∧ s' = ⟨(putK o.dst).f s.tm x, s.ds, v, s.rnd, s.df⟩ ∧ AlB s.w.nx B c ∧ ∀ ρ ev w, EvOk ρ K s.tm ev → AlF P s.w.nx o x B ρ w ev
section
variable {P : Program} {K : Operand → Bool} {s s' : St} {o : Oper}
theorem row_new {v v' : AW} {cs : List AV} {e : TypeId} {b : Nat} (h : v.row cs e false = some (b, v')) : b = v.nx ∧ v.new (fun _ => .cells (ptOf cs 0 .e) cs.length e false v.nx 0 0 0) true = some (v.nx, v') ∧ cs.length ≤ big := by
  obtain ⟨hl, h2⟩ := ifB_some.1 h
  rw [ble_d, decide_eq_true_eq] at hl
  have h3 := (new_some h2).2.1
  subst h3
  exact ⟨rfl, h2, hl⟩
theorem row_br {σ : Ren} {cs : List AV} {e : TypeId} {b k : Nat} {ys : Array Value} {w1 : World} (hl : cs.length ≤ big) (hv : VRs σ cs ys.toList) (ho : ∀ y ∈ ys, one y = true) (hw : w1.heap[k]? = some (.cells ys e (0, 0))) : BR P σ w1 ⟨k, 0, none⟩ (.cells (ptOf cs 0 .e) cs.length e false b 0 0 0) := by
  refine ⟨ys, (0, 0), hw, fun _ => ⟨rfl, rfl, by have := hv.length; simpa using this.symm⟩, fun q => (by cases q), fun i x hi hx => ?_, .inl rfl⟩
  rw [ptOf_get _ _ _ _ (by omega), if_pos (by omega), Nat.sub_zero] at hx
  obtain ⟨y, k1, k2⟩ := hv.get hx
  have : ys[i]? = some y := by simpa using k1
  exact ⟨y, by simpa using this, k2, ho y (Array.mem_of_getElem? this)⟩
theorem al_row {e : TypeId} {cs : List AV} {X : Nat → AV} (h : (finW o.dst).f s (seqP (s.w.row cs e false) fun b w => some (X b, w)) = some s')
    (hr : ∀ ρ ev w, EvOk ρ K s.tm ev → ∃ (ys : Array Value) (y : Value), VRs ρ cs ys.toList ∧ (∀ y ∈ ys, one y = true) ∧ (execOp ev o).run P w = .ok (.value y) { w with heap := w.heap.push (.cells ys e) } ∧ ∀ σ : Ren, ρ.le σ → σ s.w.nx = some ⟨w.heap.size, 0, none⟩ → VR σ (X s.w.nx) y) : AlOf P K o s s' := by
  obtain ⟨u, v, h1, h2⟩ := seqP_some.1 (show seqP _ (fun x w => some (⟨(putK o.dst).f s.tm x, s.ds, w, s.rnd, s.df⟩ : St)) = some s' from h)
  obtain ⟨b, v', h3, h4⟩ := seqP_some.1 h1
  injection h4 with h4; injection h4 with h4 h5
  subst h4; subst h5
  obtain ⟨rfl, h6, hl⟩ := row_new h3
  injection h2 with h2
  refine ⟨_, true, X s.w.nx, v', h6, h2.symm, .inr ⟨_, _, _, rfl, rfl⟩, fun ρ ev w hE => ?_⟩
  obtain ⟨ys, y, k1, k2, k3, k4⟩ := hr ρ ev w hE
  exact ⟨_, y, k3, fun σ hσ hn => ⟨k4 σ hσ hn, fun w1 hw1 => row_br hl (k1.mono hσ) k2 hw1⟩⟩
theorem alloc_al {e : TypeId} {z : AV} (ho : o.op = .alloc e) (hz : zero P e = some z) (h : (boxC P o.dst e).f s z = some s') : AlOf P K o s s' := by
  obtain ⟨cs, h1, h2⟩ := seqO_some.1 h
  refine al_row (X := fun b => .ptr b 0) h2 fun ρ ev w _ => ?_
  obtain ⟨y, k1, k2⟩ := run_zero (ρ := ρ) (w := w) hz
  obtain ⟨hv, hq⟩ := cells_vr k2 h1
  refine ⟨_, _, hv, hq, exec_v (S := Instr.alloc e true (.tuple #[])) (by unfold execOp; rw [ho]) ?_, fun σ _ hn => .ptr _ 0 _ hn⟩
  show (zeroValue e >>= fun zero => newVar e zero >>= fun a => pure (Value.pointer (some a))).run P w = _
  rw [run_bind, k1]; dsimp only
  rfl
theorem boxOp_al {e : TypeId} {x : Operand} (ho : o.op = .box e x) (hx : K x = true) (h : (boxC P o.dst e).f s ((fetch x).f s.tm) = some s') : AlOf P K o s s' := by
  obtain ⟨cs, h1, h2⟩ := seqO_some.1 h
  refine al_row (X := fun b => .ptr b 0) h2 fun ρ ev w hE => ?_
  obtain ⟨hv, hq⟩ := cells_vr (hE x hx) h1
  refine ⟨_, _, hv, hq, exec_v (S := Instr.box e (ev x)) (by unfold execOp; rw [ho]) ?_, fun σ _ hn => .ptr _ 0 _ hn⟩
  rfl
theorem mkM_al {t : TypeId} {r : Option Operand} (ho : o.op = .makeMap t r) (hr : ∀ ρ ev, EvOk ρ K s.tm ev → ∀ x, r = some x → (∃ k e, P.underlying t = some (.map k e)) ∧ ∃ k n, ev x = .int k n) (h : (finW o.dst).f s (seqP (s.w.new (fun _ => .oth (.map [] 0)) false) fun b w => some (.map b, w)) = some s') : AlOf P K o s s' := by
  obtain ⟨u, v, h1, h2⟩ := seqP_some.1 (show seqP _ (fun x w => some (⟨(putK o.dst).f s.tm x, s.ds, w, s.rnd, s.df⟩ : St)) = some s' from h)
  obtain ⟨b, v', h3, h4⟩ := seqP_some.1 h1
  injection h4 with h4; injection h4 with h4 h5
  subst h4; subst h5
  obtain ⟨_, rfl, _⟩ := new_some h3
  injection h2 with h2
  refine ⟨_, false, .map s.w.nx, v', h3, h2.symm, .inl ⟨_, rfl, rfl⟩, fun ρ ev w hE => ⟨.map #[] 0, .map (some w.heap.size), ?_, fun σ _ hn => ⟨.map _ _ hn, fun w1 hw1 => ⟨_, hw1, ⟨#[], rfl, trivial⟩, rfl⟩⟩⟩⟩
  have he : execOp ev o = (do pure (Next.value (← Instr.makeMap t (r.map ev)))) := by unfold execOp; rw [ho]
  rw [he]
  refine run_v ?_
  unfold Instr.makeMap
  cases r with
  | none => rfl
  | some x =>
    obtain ⟨⟨k, e, hd⟩, k', n, hx⟩ := hr ρ ev hE x rfl
    simp only [Option.map_some, hx]
    rw [run_bind, run_underlying hd]; dsimp only
    rfl
/-- out of it, what an operation came to -/
theorem al_fin {ρ : Ren} {ev : Operand → Value} {w : World} (hW : WR P ρ s.w w) (hE : EvOk ρ K s.tm ev) (hk : lookK o.op = false) (h : AlOf P K o s s') : Fin P ρ s w ev o s' := by
  obtain ⟨B, c, x, v, h1, rfl, h3, h4⟩ := h
  obtain ⟨ob, y, k1, k2⟩ := h4 ρ ev w hE
  obtain ⟨g1, g2, g3, g4, g5⟩ := new_some h1
  have hn : ρ s.w.nx = none := new_none hW
  have hle := Ren.add_le (t := ⟨w.heap.size, 0, none⟩) hn
  obtain ⟨m1, m2⟩ := k2 _ hle (Ren.add_same _ _ _)
  obtain ⟨a1, a2⟩ := hW.add (B := B) (ob := ob) (t := ⟨w.heap.size, 0, none⟩) (w' := { w with heap := w.heap.push ob }) rfl rfl rfl rfl rfl g3 g4 g1 m2 (by
    rcases h3 with ⟨q, rfl, rfl⟩ | ⟨cs, n, e, rfl, rfl⟩
    · exact .inl ⟨q, rfl, by rw [g5]; rfl⟩
    · exact .inr ⟨_, _, _, _, _, _, rfl, by rw [g5]; rfl⟩)
  exact ⟨x, v, _, y, _, rfl, .inl k1, m1, a1, a2, fun q => by rw [hk] at q; cases q⟩
end
end Go.Proofs.YtoffclpjhikjkaaGreat.Ev
namespace Go.Proofs.YtoffclpjhikjkaaGreat.Ev
open Go
section
variable {P : Program} {K : Operand → Bool} {s s' : St} {o : Oper}
theorem bs_al {K : Operand → Bool} {t e : TypeId} {len : Nat} {ps : Array (Nat × Operand)} {rec : Rec} (ho : o.op = .buildSlice t len ps) (hun : P.underlying t = some (.slice e)) (hp : ∀ p ∈ ps.toList, K p.2 = true) (h : (bsC P o.dst e len ps.toList).f rec s = some s') : AlOf P K o s s' := by
  unfold bsC at h
  cases hsz : sizeOf P e with
  | none => rw [hsz] at h; cases h
  | some n0 =>
    cases n0 with
    | zero => rw [hsz] at h; cases h
    | succ n =>
      cases hz : zero P e with
      | none => rw [hsz, hz] at h; cases h
      | some z =>
        rw [hsz, hz] at h
        dsimp only at h
        cases hzc : z.cells with
        | none => rw [hzc] at h; cases h
        | some zc =>
          rw [hzc] at h
          cases hb : Nat.blt (len * (n + 1)) 16777216 with
          | false => rw [hb] at h; cases h
          | true =>
            rw [hb] at h
            rw [blt_d, decide_eq_true_eq] at hb
            dsimp only at h
            cases hzl : Nat.beq zc.length (n + 1) with
            | false => rw [hzl] at h; cases h
            | true =>
            rw [hzl] at h
            simp only [cond_true] at h
            obtain ⟨cs, h1, h2⟩ := seqO_some.1 h
            refine al_row (X := fun b => .sl b 0 len len) h2 fun ρ ev w hev => ?_
            obtain ⟨hv, hq⟩ := argN_vr hev ps.toList hp
            have he : execOp ev o = (do pure (Next.value (← Instr.buildSlice t len (ps.map fun (i, x) => (i, ev x))))) := by unfold execOp; rw [ho]
            have hl : (ps.map fun (i, x) => (i, ev x)).toList = ps.toList.map fun p => (p.1, ev p.2) := by simp
            obtain ⟨zv, k1, k2⟩ := run_zero (ρ := ρ) (w := w) hz
            obtain ⟨k3, k4⟩ := cells_vr k2 hzc
            have hlen : len < big := by
              have : len ≤ len * (n + 1) := Nat.le_mul_of_pos_right _ (by omega)
              unfold big; omega
            -- the row before its parts are laid
            have key : ∀ R : Array Value, R.toList = Ev.repl zv.cells.toList len → (∀ w' ad, (∀ C', Instr.fill (fun i => some (i * (n + 1), n + 1)) R (ps.toList.map fun p => (p.1, ev p.2)) = some C' → (newRow e C').run P w = .ok ad w' → (Instr.buildSlice t len (ps.map fun (i, x) => (i, ev x))).run P w = .ok (.slice (some ad) len len) w')) →
                ∃ (ys : Array Value) (y : Value), VRs ρ cs ys.toList ∧ (∀ y ∈ ys, one y = true) ∧ (execOp ev o).run P w = .ok (.value y) { w with heap := w.heap.push (.cells ys e) } ∧ ∀ σ : Ren, ρ.le σ → σ s.w.nx = some ⟨w.heap.size, 0, none⟩ → VR σ (.sl s.w.nx 0 len len) y := fun R hR hrun => by
              obtain ⟨C', m1, m2, m3⟩ := fill_run _ _ _ _ R h1 hv hq (by rw [hR]; exact VRs.repl k3 len) (fun y hy => by
                have : y ∈ R.toList := Array.mem_toList_iff.2 hy
                rw [hR] at this
                exact k4 y (Array.mem_toList_iff.1 (repl_mem this)))
              exact ⟨C', _, m2, m3, exec_v he (hrun _ _ C' m1 (run_newRow e C')), fun σ _ hn => .slE _ 0 len len _ hn rfl hlen (Nat.le_refl _)⟩
            by_cases h0 : len * (n + 1) = 0
            · refine key #[] (by have : len = 0 := by rcases Nat.mul_eq_zero.1 h0 with q | q; exact q; omega
                                 subst this; rfl) (fun w' ad C' q1 q2 => ?_)
              unfold Instr.buildSlice
              rw [run_bind, run_underlying hun]; dsimp only
              rw [run_bind, run_sizeOf hsz]; dsimp only
              rw [if_neg (by omega)]
              simp only [h0, if_true]
              rw [run_bind, run_pure]; dsimp only
              have e2 : ((Array.range 0).map fun x => (#[] : Array Value)[x % (#[] : Array Value).size]!) = #[] := by simp
              rw [e2, hl, q1]; dsimp only
              rw [run_bind, q2]; rfl
            · have hzs : zv.cells.size = n + 1 := by rw [← beq_t.1 hzl, k3.length]; simp
              refine key ((Array.range (len * (n + 1))).map (zv.cells[· % zv.cells.size]!)) (zero_row hzs) (fun w' ad C' q1 q2 => ?_)
              unfold Instr.buildSlice
              rw [run_bind, run_underlying hun]; dsimp only
              rw [run_bind, run_sizeOf hsz]; dsimp only
              rw [if_neg (by omega), if_neg h0]
              rw [run_bind, k1]; dsimp only
              rw [run_bind, run_pure]; dsimp only
              rw [hl, q1]; dsimp only
              rw [run_bind, q2]; rfl
theorem ms_al {t e : TypeId} {l cx : Operand} {n k : Nat} {z : AV} {zc : List AV} (ho : o.op = .makeSlice t l cx) (hd : P.underlying t = some (.slice e)) (hsz : sizeOf P e = some (n + 1)) (hk : bytesOf P e = some k) (hk1 : k < 65536) (hz : zero P e = some z) (hzc : z.cells = some zc) (hzl : zc.length = n + 1) (hKl : K l = true) (hKc : K cx = true) (h : (finW o.dst).f s (msV s.w e zc ((fetch l).f s.tm) ((fetch cx).f s.tm)) = some s') : AlOf P K o s s' := by
  generalize ea : (fetch l).f s.tm = a at h
  generalize eb : (fetch cx).f s.tm = b at h
  obtain ⟨u0, v0, hq, hs'⟩ := seqP_some.1 (show seqP _ (fun x w => some (⟨(putK o.dst).f s.tm x, s.ds, w, s.rnd, s.df⟩ : St)) = some s' from h)
  unfold msV at hq
  obtain ⟨h1, hq⟩ := ifB_some.1 hq
  rw [Bool.and_eq_true, Bool.and_eq_true, Bool.and_eq_true, ble_d, blt_d, decide_eq_true_eq, decide_eq_true_eq] at h1
  obtain ⟨⟨⟨i1, i2⟩, i3⟩, i4⟩ := h1
  have h' : (finW o.dst).f s (seqP (s.w.row (repl zc b.y) e false) fun b' w => some (.sl b' 0 a.y b.y, w)) = some s' := by
    show seqP _ (fun x w => some (⟨(putK o.dst).f s.tm x, s.ds, w, s.rnd, s.df⟩ : St)) = some s'
    rw [hq]; exact hs'
  refine al_row (X := fun b' => .sl b' 0 a.y b.y) h' fun ρ ev w hev => ?_
  have ha : VR ρ a (ev l) := by rw [← ea]; exact hev l hKl
  have hb : VR ρ b (ev cx) := by rw [← eb]; exact hev cx hKc
  obtain ⟨k1, e1⟩ := idx_val ha i1 (by omega)
  obtain ⟨k2, e2⟩ := idx_val hb i2 (by omega)
  obtain ⟨it, hi1, hi2⟩ := Option.map_eq_some_iff.1 hk
  obtain ⟨zv, z1, z2⟩ := run_zero (ρ := ρ) (w := w) hz
  obtain ⟨z3, z4⟩ := cells_vr z2 hzc
  have hzs : zv.cells.size = n + 1 := by have := z3.length; simp only [Array.length_toList] at this; omega
  have he : execOp ev o = (do pure (Next.value (← Instr.makeSlice t (ev l) (ev cx)))) := by unfold execOp; rw [ho]
  have key : ∀ R : Array Value, R.toList = Ev.repl zv.cells.toList b.y → (Instr.makeSlice t (ev l) (ev cx)).run P w = .ok (.slice (some ⟨w.heap.size, 0, none⟩) a.y b.y) { w with heap := w.heap.push (.cells R e) } →
      ∃ (ys : Array Value) (y : Value), VRs ρ (repl zc b.y) ys.toList ∧ (∀ y ∈ ys, one y = true) ∧ (execOp ev o).run P w = .ok (.value y) { w with heap := w.heap.push (.cells ys e) } ∧ ∀ σ : Ren, ρ.le σ → σ s.w.nx = some ⟨w.heap.size, 0, none⟩ → VR σ (.sl s.w.nx 0 a.y b.y) y := fun R hR hrun => by
    exact ⟨R, _, by rw [hR]; exact VRs.repl z3 b.y, fun y hy => by
      have : y ∈ R.toList := Array.mem_toList_iff.2 hy
      rw [hR] at this
      exact z4 y (Array.mem_toList_iff.1 (repl_mem this)), by rw [he]; exact run_v hrun, fun σ _ hn => .slE _ 0 a.y b.y _ hn rfl (by unfold big; omega) i3⟩
  have hmul : ((it.bytes : Int) * (b.y : Int)) ≤ 65536000000 := by
    have h7 : it.bytes * b.y ≤ 65536 * 1000000 := Nat.mul_le_mul (by omega) (by omega)
    have h8 := Int.ofNat_le.2 h7
    rw [Int.natCast_mul] at h8
    exact h8
  have ai : ∀ k n, (asInt (.int k n)).run P w = .ok n w := fun _ _ => rfl
  have hc : ¬ ((decide ((b.y : Int) < 0) || decide ((it.bytes : Int) * (b.y : Int) > 2 ^ 48) || decide ((a.y : Int) < 0) || decide ((a.y : Int) > (b.y : Int))) = true) := by
    intro q
    rw [Bool.or_eq_true, Bool.or_eq_true, Bool.or_eq_true] at q
    have h48 : (65536000000 : Int) ≤ 2 ^ 48 := by decide
    rcases q with ((q | q) | q) | q
    · have := of_decide_eq_true q; omega
    · exact absurd (Int.le_trans hmul h48) (Int.not_le.2 (of_decide_eq_true q))
    · have := of_decide_eq_true q; omega
    · have := of_decide_eq_true q; omega
  have pre : ∀ r : Result Value, (if b.y * (n + 1) = 0 then do
                let zero ← pure #[]
                let x ← newRow e (Array.map (fun x => zero[x % zero.size]!) (Array.range (b.y * (n + 1))))
                pure (Value.slice (some x) a.y b.y)
              else do
                let z ← zeroValue e
                let zero ← pure z.cells
                let x ← newRow e (Array.map (fun x => zero[x % zero.size]!) (Array.range (b.y * (n + 1))))
                pure (Value.slice (some x) a.y b.y) : Sem Value).run P w = r → (Instr.makeSlice t (ev l) (ev cx)).run P w = r := fun r hr => by
    unfold Instr.makeSlice
    rw [run_bind, run_underlying hd]; dsimp only
    rw [e1, e2]
    rw [run_bind, ai]; dsimp only
    rw [run_bind, ai]; dsimp only
    rw [run_bind, run_typeInfo hi1]; dsimp only
    rw [wrap_small (by omega), wrap_small (by omega)]
    rw [if_neg hc, run_bind, run_room]; dsimp only
    rw [run_bind, run_sizeOf hsz]; dsimp only
    simp only [Int.toNat_natCast]
    exact hr
  by_cases h0 : b.y * (n + 1) = 0
  · have hb0 : b.y = 0 := by rcases Nat.mul_eq_zero.1 h0 with q | q; exact q; omega
    refine key #[] (by rw [hb0]; rfl) (pre _ ?_)
    rw [if_pos h0]
    rw [run_bind, run_pure]; dsimp only
    have e2 : ((Array.range (b.y * (n + 1))).map fun x => (#[] : Array Value)[x % (#[] : Array Value).size]!) = #[] := by rw [h0]; simp
    rw [e2, run_bind, run_newRow]; rfl
  · refine key _ (zero_row (n := b.y) hzs) (pre _ ?_)
    rw [if_neg h0]
    rw [run_bind, z1]; dsimp only
    rw [run_bind, run_pure]; dsimp only
    rw [run_bind, run_newRow]; rfl
end
end Go.Proofs.YtoffclpjhikjkaaGreat.Ev
namespace Go.Proofs.YtoffclpjhikjkaaGreat.Ev
open Go
section
variable {P : Program} {ρ : Ren} {v : AW} {w : World}
theorem WR.bump (h : WR P ρ v w) : WR P ρ ⟨big, v.bl, v.gr⟩ w :=
  ⟨h.blk, fun b B q => Nat.lt_of_lt_of_le (h.nxB b B q) h.nx, fun b t q => ⟨Nat.lt_of_lt_of_le (h.nxR b t q).1 h.nx, (h.nxR b t q).2⟩, Nat.le_refl _, h.grp, h.grM, fun g l q => ⟨Nat.lt_of_lt_of_le (h.grN g l q).1 h.nx, fun m hm => Nat.lt_of_lt_of_le ((h.grN g l q).2 m hm) h.nx⟩, h.pend, h.alias, h.inj⟩
/-- u is v as it was, but for new blocks -/
structure Sub (u v : AW) : Prop where
  nx : u.nx ≤ v.nx
  bl : ∀ b B, u.bl.get b = some B → v.bl.get b = some B
  gr : ∀ g, g < u.nx → v.gr.get g = u.gr.get g
theorem Sub.refl (u : AW) : Sub u u := ⟨Nat.le_refl _, fun _ _ h => h, fun _ _ => rfl⟩
theorem Sub.trans {u v x : AW} (h : Sub u v) (k : Sub v x) : Sub u x := ⟨Nat.le_trans h.nx k.nx, fun b B q => k.bl b B (h.bl b B q), fun g q => (k.gr g (Nat.lt_of_lt_of_le q h.nx)).trans (h.gr g q)⟩
theorem WR.sub (h : WR P ρ v w) {u : AW} (hs : Sub u v) {ρr : Ren} {wr : World} (hu : WR P ρr u wr) : WR P ρ ⟨big, u.bl, u.gr⟩ w := by
  refine ⟨fun b B t q1 q2 => h.blk b B t (hs.bl _ _ q1) q2, fun b B q => Nat.lt_of_lt_of_le (hu.nxB b B q) hu.nx, fun b t q => ⟨Nat.lt_of_lt_of_le (h.nxR b t q).1 h.nx, (h.nxR b t q).2⟩, Nat.le_refl _, hu.grp, hu.grM, fun g l q => ⟨Nat.lt_of_lt_of_le (hu.grN g l q).1 hu.nx, fun m hm => Nat.lt_of_lt_of_le ((hu.grN g l q).2 m hm) hu.nx⟩, fun b cs n e lo gp sh f hh q1 q2 => ?_, fun b cs n e lo gp sh f hh t b' cs' n' e' lo' gp' sh' f' hh' t' q1 q2 => h.alias _ _ _ _ _ _ _ _ _ _ _ _ _ _ _ _ _ _ _ _ (hs.bl _ _ q1) (hs.bl _ _ q2), fun b o b' o' t t' q1 q2 => h.inj _ _ _ _ _ _ (hs.bl _ _ q1) (hs.bl _ _ q2)⟩
  obtain ⟨l, k1, _⟩ := hu.grp _ _ _ _ _ _ _ _ _ q1
  have := h.pend _ _ _ _ _ _ _ _ _ (hs.bl _ _ q1) q2
  rw [hs.gr _ (hu.grN _ _ k1).1] at this
  exact this
/-- planned, and not made yet -/
theorem WR.plan (h : WR P ρ v w) {v' : AW} {B : Blk} {c : Bool} (hn : v.new (fun _ => B) c = some (v.nx, v')) (hB : AlB v.nx B c) : WR P ρ v' w ∧ Sub v v' ∧ v'.nx = v.nx + 1 ∧ v'.bl.get v.nx = some B ∧ (c = true → v'.gr.get v.nx = some [v.nx]) ∧ v.nx < big := by
  obtain ⟨g1, g2, g3, g4, g5⟩ := new_some hn
  have hr : ρ v.nx = none := new_none h
  have hget : ∀ j, v'.bl.get j = if j = v.nx then some B else v.bl.get j := fun j => by rw [g4, PT.get_set _ _ _ _ g1]
  have hnone : v.bl.get v.nx = none := by
    cases hq : v.bl.get v.nx with
    | none => rfl
    | some B' => exact absurd (h.nxB _ _ hq) (Nat.lt_irrefl _)
  have hgr : ∀ g, g ≠ v.nx → v'.gr.get g = v.gr.get g := fun g hgn => by
    rw [g5]
    cases c
    · rfl
    · rw [if_pos rfl, PT.get_set _ _ _ _ g1, if_neg hgn]
  have hgc : c = true → v'.gr.get v.nx = some [v.nx] := fun hc => by rw [g5, if_pos hc, PT.get_set _ _ _ _ g1, if_pos rfl]
  have hgn : ∀ l, v'.gr.get v.nx = some l → l = [v.nx] := fun l q => by
    cases c with
    | true => rw [hgc rfl] at q; injection q with q; exact q.symm
    | false => rw [g5] at q; exact absurd (h.grN _ _ q).1 (Nat.lt_irrefl _)
  have hcell : ∀ cs n e lo gp sh f hh, B = .cells cs n e lo gp sh f hh → gp = v.nx ∧ c = true := fun cs n e lo gp sh f hh q => by
    rcases hB with ⟨o, e1, _⟩ | ⟨cs', n', e', e1, e2⟩
    · rw [e1] at q; cases q
    · rw [e1] at q; injection q with _ _ _ _ q1 q2; exact ⟨q1.symm, e2⟩
  refine ⟨⟨fun b B' t' h1 h2 => ?_, fun b B' q => ?_, fun b t q => ⟨by rw [g3]; have := (h.nxR b t q).1; omega, (h.nxR b t q).2⟩, by rw [g3]; omega, fun b cs n e lo gp sh f hh q => ?_, fun g l m cs n e lo gp sh f hh q1 q2 q3 => ?_, fun g l q => ?_, fun b cs n e lo gp sh f hh q1 q2 => ?_, ?_, ?_⟩, ⟨by omega, fun b B' q => ?_, fun g hg => hgr g (by omega)⟩, g3, by rw [hget, if_pos rfl], hgc, g1⟩
  · rw [hget] at h1
    by_cases hbn : b = v.nx
    · subst hbn; rw [hr] at h2; cases h2
    · rw [if_neg hbn] at h1; exact h.blk _ _ _ h1 h2
  · rw [hget] at q
    by_cases hbn : b = v.nx
    · omega
    · rw [if_neg hbn] at q; have := h.nxB _ _ q; omega
  · rw [hget] at q
    by_cases hbn : b = v.nx
    · rw [if_pos hbn] at q; injection q with q
      obtain ⟨rfl, e2⟩ := hcell _ _ _ _ _ _ _ _ q
      exact ⟨_, hgc e2, by rw [hbn]; simp⟩
    · rw [if_neg hbn] at q
      obtain ⟨l, h1, h2⟩ := h.grp _ _ _ _ _ _ _ _ _ q
      exact ⟨l, by rw [hgr _ (Nat.ne_of_lt (h.grN _ _ h1).1)]; exact h1, h2⟩
  · by_cases hgv : g = v.nx
    · subst hgv
      rw [hgn _ q1] at q2
      have : m = v.nx := by simpa using q2
      subst this
      rw [hget, if_pos rfl] at q3; injection q3 with q3
      exact (hcell _ _ _ _ _ _ _ _ q3).1
    · rw [hgr _ hgv] at q1
      have := (h.grN _ _ q1).2 m q2
      rw [hget, if_neg (by omega)] at q3
      exact h.grM _ _ _ _ _ _ _ _ _ _ _ q1 q2 q3
  · by_cases hgv : g = v.nx
    · subst hgv
      rw [hgn _ q, g3]; simp
    · rw [hgr _ hgv] at q
      have := h.grN _ _ q
      rw [g3]; exact ⟨by omega, fun m hm => by have := this.2 m hm; omega⟩
  · rw [hget] at q1
    by_cases hbn : b = v.nx
    · rw [if_pos hbn] at q1; injection q1 with q1
      obtain ⟨rfl, e2⟩ := hcell _ _ _ _ _ _ _ _ q1
      rw [hbn]; exact hgc e2
    · rw [if_neg hbn] at q1
      have h4 := h.pend _ _ _ _ _ _ _ _ _ q1 q2
      rw [hgr _ (Nat.ne_of_lt (h.grN _ _ h4).1)]; exact h4
  · intro b cs n e lo gp sh f hh t1 b' cs' n' e' lo' gp' sh' f' hh' t2 q1 q2 q3 q4 q5 q6
    have hb1 : b ≠ v.nx := fun e => by rw [e, hr] at q3; cases q3
    have hb2 : b' ≠ v.nx := fun e => by rw [e, hr] at q4; cases q4
    rw [hget, if_neg hb1] at q1; rw [hget, if_neg hb2] at q2
    exact h.alias _ _ _ _ _ _ _ _ _ _ _ _ _ _ _ _ _ _ _ _ q1 q2 q3 q4 q5 q6
  · intro b o b' o' t1 t2 q1 q2 q3 q4 q6
    have hb1 : b ≠ v.nx := fun e => by rw [e, hr] at q3; cases q3
    have hb2 : b' ≠ v.nx := fun e => by rw [e, hr] at q4; cases q4
    rw [hget, if_neg hb1] at q1; rw [hget, if_neg hb2] at q2
    exact h.inj _ _ _ _ _ _ q1 q2 q3 q4 q6
  · rw [hget, if_neg (fun e => by rw [e, hnone] at q; cases q)]; exact q
/-- it is made -/
theorem WR.make (h : WR P ρ v w) {b : Nat} {B : Blk} {ob : Obj} {w' : World} (hr : ρ b = none) (hb : b < v.nx) (hw : w'.heap = w.heap.push ob) (hB : ∀ w1 : World, w1.heap[w.heap.size]? = some ob → BR P (ρ.add b ⟨w.heap.size, 0, none⟩) w1 ⟨w.heap.size, 0, none⟩ B) (hv : v.bl.get b = some B) :
    WR P (ρ.add b ⟨w.heap.size, 0, none⟩) v w' := by
  have hle := Ren.add_le (t := ⟨w.heap.size, 0, none⟩) hr
  have hold : ∀ k, k < w.heap.size → w'.heap[k]? = w.heap[k]? := fun k hk => by rw [hw, Array.getElem?_push, if_neg (by omega)]
  have hnew : w'.heap[w.heap.size]? = some ob := by rw [hw, Array.getElem?_push, if_pos rfl]
  have hadd : ∀ b1 t', ρ.add b ⟨w.heap.size, 0, none⟩ b1 = some t' → (b1 = b ∧ t' = ⟨w.heap.size, 0, none⟩) ∨ (b1 ≠ b ∧ ρ b1 = some t') := fun b1 t' q => by
    unfold Ren.add at q
    by_cases hk : b1 = b
    · rw [if_pos hk] at q; injection q with q; exact .inl ⟨hk, q.symm⟩
    · rw [if_neg hk] at q; exact .inr ⟨hk, q⟩
  refine ⟨fun b1 B' t' h1 h2 => ?_, h.nxB, fun b1 t' q => ?_, h.nx, h.grp, h.grM, h.grN, fun b1 cs n e lo gp sh f hh q1 q2 => ?_, ?_, ?_⟩
  · rcases hadd b1 t' h2 with ⟨rfl, rfl⟩ | ⟨hbn, h3⟩
    · rw [hv] at h1; injection h1 with h1; subst h1; exact hB _ hnew
    · exact (h.blk b1 B' t' h1 h3).mono hle (hold _ (h.nxR _ _ h3).2)
  · rw [hw, Array.size_push]
    rcases hadd b1 t' q with ⟨rfl, rfl⟩ | ⟨_, h3⟩
    · exact ⟨hb, Nat.lt_succ_self _⟩
    · have := h.nxR _ _ h3; omega
  · have h3 : ρ b1 = none := by
      unfold Ren.add at q2
      by_cases hk : b1 = b
      · rw [if_pos hk] at q2; cases q2
      · rw [if_neg hk] at q2; exact q2
    exact h.pend _ _ _ _ _ _ _ _ _ q1 h3
  · intro b1 cs n e lo gp sh f hh t1 b' cs' n' e' lo' gp' sh' f' hh' t2 q1 q2 q3 q4 q5 q6
    rcases hadd b1 t1 q3 with ⟨rfl, rfl⟩ | ⟨hb1, r1⟩
    · rcases hadd b' t2 q4 with ⟨rfl, rfl⟩ | ⟨hb2, r2⟩
      · exact absurd rfl q5
      · have := (h.nxR _ _ r2).2; rw [← q6] at this; exact absurd this (Nat.lt_irrefl _)
    · rcases hadd b' t2 q4 with ⟨rfl, rfl⟩ | ⟨hb2, r2⟩
      · have := (h.nxR _ _ r1).2; rw [q6] at this; exact absurd this (Nat.lt_irrefl _)
      · exact h.alias _ _ _ _ _ _ _ _ _ _ _ _ _ _ _ _ _ _ _ _ q1 q2 r1 r2 q5 q6
  · intro b1 o b' o' t1 t2 q1 q2 q3 q4 q6
    rcases hadd b1 t1 q3 with ⟨rfl, rfl⟩ | ⟨hb1, r1⟩
    · rcases hadd b' t2 q4 with ⟨rfl, rfl⟩ | ⟨hb2, r2⟩
      · rfl
      · have := (h.nxR _ _ r2).2; rw [← q6] at this; exact absurd this (Nat.lt_irrefl _)
    · rcases hadd b' t2 q4 with ⟨rfl, rfl⟩ | ⟨hb2, r2⟩
      · have := (h.nxR _ _ r1).2; rw [q6] at this; exact absurd this (Nat.lt_irrefl _)
      · exact h.inj _ _ _ _ _ _ q1 q2 r1 r2 q6
end
/-! ### Steps, as seen from where a region began -/
section
variable {P : Program} {ρ0 ρ σ : Ren} {v0 v v' : AW} {w0 w w' : World}
/-- the plan goes on by itself -/
theorem Stp.plan (h : Stp ρ0 v0 w0 ρ v w) (hW : WR P ρ v w) (hs : Sub v v') (hb : ∀ b B, v'.bl.get b = some B → b < v.nx → v.bl.get b = some B) : Stp ρ0 v0 w0 ρ v' w := by
  refine ⟨h.le, Nat.le_trans h.nx hs.nx, fun b hb0 hr => ⟨(h.old b hb0 hr).1, ?_⟩, h.size, h.os, h.tape, h.output, h.keep, fun k hk hlt => h.im k ?_ hlt⟩
  · have hbv : b < v.nx := Nat.lt_of_lt_of_le hb0 h.nx
    rw [← (h.old b hb0 hr).2]
    cases hq : v'.bl.get b with
    | some B => exact (hb b B hq hbv).symm
    | none =>
      cases hq2 : v.bl.get b with
      | none => rfl
      | some B => rw [hs.bl _ _ hq2] at hq; cases hq
  · obtain ⟨b, B, t, k1, k2, k3⟩ := hk
    exact ⟨b, B, t, hb b B k1 (hW.nxR b t k2).1, k2, k3⟩
/-- a planned block is made -/
theorem Stp.make (h : Stp ρ0 v0 w0 ρ v w) {b : Nat} {ob : Obj} (hr : ρ b = none) (hb : v0.nx ≤ b) (hw : w'.heap = w.heap.push ob) (ho : w'.os = w.os) (ht : w'.tape = w.tape) (hu : w'.output = w.output) : Stp ρ0 v0 w0 (ρ.add b ⟨w.heap.size, 0, none⟩) v w' := by
  refine ⟨h.le.trans (Ren.add_le hr), h.nx, fun b1 hb1 hr1 => ⟨?_, (h.old b1 hb1 hr1).2⟩, by rw [hw, Array.size_push]; have := h.size; omega, ho.trans h.os, ht.trans h.tape, hu.trans h.output, fun k hk hn => ?_, fun k hk hlt => h.im k ?_ hlt⟩
  · unfold Ren.add; rw [if_neg (by omega)]; exact (h.old b1 hb1 hr1).1
  · have := h.size
    rw [hw, Array.getElem?_push, if_neg (by omega)]; exact h.keep k hk hn
  · obtain ⟨b1, B, t, k1, k2, k3⟩ := hk
    unfold Ren.add at k2
    by_cases hk' : b1 = b
    · rw [if_pos hk'] at k2; injection k2 with k2
      rw [← k2] at k3
      have := h.size
      have h4 : w.heap.size = k := k3
      omega
    · rw [if_neg hk'] at k2; exact ⟨b1, B, t, k1, k2, k3⟩
end
end Go.Proofs.YtoffclpjhikjkaaGreat.Ev
namespace Go.Proofs.YtoffclpjhikjkaaGreat.Ev
open Go
theorem memN_t {k : Nat} : ∀ {l : List Nat}, memN k l = true ↔ k ∈ l
  | [] => by simp [memN]
  | x :: l => by unfold memN; rw [Bool.or_eq_true, beq_t, memN_t, List.mem_cons]
theorem memN_f {k : Nat} {l : List Nat} : memN k l = false ↔ k ∉ l := by rw [← memN_t]; simp
theorem allIn_t {m : List Nat} : ∀ {l : List Nat}, allIn m l = true ↔ ∀ k ∈ l, k ∈ m
  | [] => by simp [allIn]
  | x :: l => by unfold allIn; rw [Bool.and_eq_true, memN_t, allIn_t]; simp
theorem mem_upTo {k : Nat} : ∀ {n : Nat}, k < n → k ∈ upTo n
  | 0, h => absurd h (Nat.not_lt_zero _)
  | n + 1, h => by
    unfold upTo
    by_cases hk : k = n
    · simp [hk]
    · exact List.mem_append_left _ (mem_upTo (by omega))
theorem mem_union {k : Nat} {l : List Nat} : ∀ {m : List Nat}, k ∈ union l m → k ∈ l ∨ k ∈ m
  | [], h => .inl h
  | x :: m, h => by
    unfold union at h
    cases hx : memN x l with
    | true =>
      rw [hx] at h
      rcases mem_union (m := m) h with q | q
      · exact .inl q
      · exact .inr (List.mem_cons_of_mem _ q)
    | false =>
      rw [hx] at h
      rcases mem_union (m := m) h with q | q
      · rcases List.mem_cons.1 q with q | q
        · exact .inr (by rw [q]; exact List.mem_cons_self ..)
        · exact .inl q
      · exact .inr (List.mem_cons_of_mem _ q)
/-- E holds of all that an operation of E waits for -/
def Closed (L : List Oper) (E : Nat → Prop) : Prop := ∀ (i : Nat) (o : Oper), L[i]? = some o → E i → ∀ e ∈ o.after.toList, Region.binds .any e = true → E e.on
def Good (L : List Oper) (as : List (List Nat)) : Prop := ∀ (i : Nat) (a : List Nat), as[i]? = some a → ∃ o : Oper, L[i]? = some o ∧ ∀ E : Nat → Prop, Closed L E → (∀ e ∈ o.after.toList, Region.binds .any e = true → E e.on) → ∀ k ∈ a, E k
theorem ancOf_good {L : List Oper} {as : List (List Nat)} (hg : Good L as) {E : Nat → Prop} (hE : Closed L E) : ∀ {es : List Edge}, (∀ e ∈ es, Region.binds .any e = true → E e.on) → ∀ k ∈ ancOf as es, E k
  | [], _, k, hk => by cases hk
  | e :: es, h, k, hk => by
    have ih := ancOf_good hg hE (es := es) fun e' he' => h e' (List.mem_cons_of_mem _ he')
    unfold ancOf at hk
    cases hb : Region.binds .any e with
    | false => rw [hb] at hk; exact ih k hk
    | true =>
      rw [hb] at hk
      have he := h e (List.mem_cons_self ..) hb
      rcases mem_union hk with q | q
      · rcases List.mem_cons.1 q with q | q
        · rw [q]; exact he
        · rw [lget_eq] at q
          cases ha : as[e.on]? with
          | none => rw [ha] at q; cases q
          | some a =>
            rw [ha] at q
            obtain ⟨o, ho, hh⟩ := hg _ _ ha
            exact hh E hE (hE _ _ ho he) k q
      · exact ih k q
theorem ancs_good {L : List Oper} : ∀ (l pre : List Oper) (as : List (List Nat)), L = pre ++ l → as.length = pre.length → Good L as → Good L (ancs l as) ∧ (ancs l as).length = L.length
  | [], pre, as, h, hl, hg => ⟨hg, by show as.length = _; rw [hl, h]; simp⟩
  | o :: l, pre, as, h, hl, hg => by
    unfold ancs
    refine ancs_good l (pre ++ [o]) _ (by rw [h]; simp) (by simp [hl]) fun i a ha => ?_
    rw [List.getElem?_append] at ha
    by_cases hi : i < as.length
    · rw [if_pos hi] at ha; exact hg i a ha
    · rw [if_neg hi] at ha
      have hi0 : i = as.length := by
        have := (List.getElem?_eq_some_iff.1 ha).1
        simp at this; omega
      subst hi0
      rw [Nat.sub_self] at ha
      injection ha with ha
      refine ⟨o, by rw [h, hl, List.getElem?_append_right (Nat.le_refl _), Nat.sub_self]; rfl, fun E hE hd k hk => ?_⟩
      rw [← ha] at hk
      exact ancOf_good hg hE hd k hk
theorem anc_closed {L : List Oper} {E : Nat → Prop} (hE : Closed L E) {i : Nat} {o : Oper} (ho : L[i]? = some o) (hd : ∀ e ∈ o.after.toList, Region.binds .any e = true → E e.on) : ∀ k ∈ ancA (ancs L []) i, E k := fun k hk => by
  obtain ⟨hg, _⟩ := ancs_good (L := L) L [] [] rfl rfl (fun i a h => by simp at h)
  unfold ancA at hk
  rw [lget_eq] at hk
  cases ha : (ancs L [])[i]? with
  | none => rw [ha] at hk; cases hk
  | some a =>
    rw [ha] at hk
    obtain ⟨o', ho', hh⟩ := hg _ _ ha
    rw [ho] at ho'; injection ho' with ho'; subst ho'
    exact hh E hE hd k hk
/-- who writes a temporary -/
theorem wr_none {t : Nat} : ∀ {l : List Oper} {i : Nat}, wrOf t l i = none → ∀ (m : Nat) (o : Oper), l[m]? = some o → o.dst ≠ some t
  | [], _, _, m, o, h => by simp at h
  | p :: l, i, hw, m, o, h => by
    have hrest : wrOf t l (i + 1) = none ∧ p.dst ≠ some t := by
      unfold wrOf at hw
      cases hd : p.dst with
      | none => rw [hd] at hw; exact ⟨hw, by simp⟩
      | some d =>
        rw [hd] at hw; dsimp only at hw
        cases hb : Nat.beq d t with
        | true => rw [hb] at hw; cases hw
        | false =>
          rw [hb] at hw
          exact ⟨hw, fun e => by injection e with e; rw [beq_f] at hb; exact hb e⟩
    cases m with
    | zero => simp at h; subst h; exact hrest.2
    | succ m => simp at h; exact wr_none hrest.1 m o h
theorem wr_some {t k : Nat} : ∀ {l : List Oper} {i : Nat}, wrOf t l i = some k → ∃ m o, k = i + m ∧ l[m]? = some o ∧ o.dst = some t
  | [], _, h => by cases h
  | p :: l, i, hw => by
    have hrec : wrOf t l (i + 1) = some k → ∃ m o, k = i + m ∧ (p :: l)[m]? = some o ∧ o.dst = some t := fun q => by
      obtain ⟨m, o, h1, h2, h3⟩ := wr_some q
      exact ⟨m + 1, o, by omega, by simpa using h2, h3⟩
    unfold wrOf at hw
    cases hd : p.dst with
    | none => rw [hd] at hw; exact hrec hw
    | some d =>
      rw [hd] at hw; dsimp only at hw
      cases hb : Nat.beq d t with
      | true => rw [hb] at hw; injection hw with hw; rw [beq_t] at hb; exact ⟨0, p, by omega, rfl, by rw [hd, hb]⟩
      | false => rw [hb] at hw; exact hrec hw
theorem wr_of {t : Nat} : ∀ {l : List Oper} {i m : Nat} {o : Oper}, onceT l = true → l[m]? = some o → o.dst = some t → wrOf t l i = some (i + m)
  | [], _, m, o, _, h, _ => by simp at h
  | p :: l, i, m, o, ho, h, hd => by
    unfold onceT at ho
    rw [Bool.and_eq_true] at ho
    cases m with
    | zero =>
      simp at h; subst h
      unfold wrOf; rw [hd]; dsimp only
      rw [beq_t.2 rfl]; rfl
    | succ m =>
      simp at h
      have ih := wr_of (i := i + 1) ho.2 h hd
      unfold wrOf
      cases hp : p.dst with
      | none => dsimp only; rw [ih]; congr 1; omega
      | some d =>
        dsimp only
        cases hb : Nat.beq d t with
        | false => simp only [cond_false]; rw [ih]; congr 1; omega
        | true =>
          rw [beq_t] at hb
          subst hb
          have h1 := ho.1
          rw [hp] at h1
          dsimp only at h1
          cases hw : wrOf d l 0 with
          | none => exact absurd hd (wr_none hw m o h)
          | some q => rw [hw] at h1; cases h1
theorem readOk_t {ops : List Oper} {as : List (List Nat)} {i : Nat} : ∀ {l : List Operand}, readOk ops as i l = true → ∀ t, Operand.tmp t ∈ l → ∀ k, wrOf t ops 0 = some k → k ∈ ancA as i ∨ i ∈ ancA as k
  | [], _, t, h, _, _ => by cases h
  | x :: l, h, t, ht, k, hk => by
    have h' : (∀ u, x = .tmp u → (match wrOf u ops 0 with | none => true | some k => memN k (ancA as i) || memN i (ancA as k)) = true) ∧ readOk ops as i l = true := by
      cases x with
      | tmp u => unfold readOk at h; rw [Bool.and_eq_true] at h; exact ⟨fun u' e => by injection e with e; subst e; exact h.1, h.2⟩
      | _ => exact ⟨fun u e => (by cases e), h⟩
    rcases List.mem_cons.1 ht with q | q
    · have := h'.1 t q.symm
      rw [hk] at this
      dsimp only at this
      rw [Bool.or_eq_true, memN_t, memN_t] at this
      exact this
    · exact readOk_t h'.2 t q k hk
theorem stillO_t {ops : List Oper} {a done : List Nat} : ∀ {l : List Operand}, stillO ops a done l = true → ∀ t, Operand.tmp t ∈ l → ∀ k, wrOf t ops 0 = some k → k ∈ a ∨ k ∉ done
  | [], _, t, h, _, _ => by cases h
  | x :: l, h, t, ht, k, hk => by
    have h' : (∀ u, x = .tmp u → (match wrOf u ops 0 with | none => true | some k => memN k a || !memN k done) = true) ∧ stillO ops a done l = true := by
      cases x with
      | tmp u => unfold stillO at h; rw [Bool.and_eq_true] at h; exact ⟨fun u' e => by injection e with e; subst e; exact h.1, h.2⟩
      | _ => exact ⟨fun u e => (by cases e), h⟩
    rcases List.mem_cons.1 ht with q | q
    · have := h'.1 t q.symm
      rw [hk] at this
      dsimp only at this
      rw [Bool.or_eq_true, memN_t, Bool.not_eq_true', memN_f] at this
      exact this
    · exact stillO_t h'.2 t q k hk
theorem readsOk_t {ops : List Oper} {as : List (List Nat)} : ∀ {l : List Oper} {i : Nat}, readsOk ops as l i = true → ∀ m o, l[m]? = some o → readOk ops as (i + m) o.op.operands.toList = true ∧ gdOk (ancA as (i + m)) o = true
  | [], _, _, m, o, h => by simp at h
  | p :: l, i, h, m, o, hm => by
    unfold readsOk at h
    rw [Bool.and_eq_true, Bool.and_eq_true] at h
    cases m with
    | zero => simp at hm; subst hm; exact h.1
    | succ m =>
      simp at hm
      have := readsOk_t h.2 m o hm
      rw [show i + (m + 1) = i + 1 + m from by omega]; exact this
theorem depIn_t {done : List Nat} {o : Oper} : depIn done o = true ↔ ∀ e ∈ o.after.toList, Region.binds .any e = true → e.on ∈ done := by
  unfold depIn
  rw [List.all_eq_true]
  refine forall_congr' fun e => forall_congr' fun _ => ?_
  rw [Bool.or_eq_true, memN_t]
  cases Region.binds .any e <;> simp
theorem onlyIs_t {done : List Nat} {i : Nat} : ∀ {l : List Oper} {k : Nat}, onlyIs done i l k = true → ∀ m o, l[m]? = some o → k + m = i ∨ k + m ∈ done ∨ depIn done o = false
  | [], _, _, m, o, h => by simp at h
  | p :: l, k, h, m, o, hm => by
    unfold onlyIs at h
    rw [Bool.and_eq_true, Bool.or_eq_true, Bool.or_eq_true, beq_t, memN_t, Bool.not_eq_true'] at h
    cases m with
    | zero => simp at hm; subst hm; exact h.1
    | succ m =>
      simp at hm
      have := onlyIs_t h.2 m o hm
      rw [show k + (m + 1) = k + 1 + m from by omega]; exact this
theorem eqL_t {f : AV → AV → Bool} (hf : ∀ x y, f x y = true → x = y) : ∀ {l m : List AV}, eqL f l m = true → l = m
  | [], [], _ => rfl
  | [], _ :: _, h => by cases h
  | _ :: _, [], h => by cases h
  | x :: l, y :: m, h => by
    unfold eqL at h
    rw [Bool.and_eq_true] at h
    rw [hf _ _ h.1, eqL_t hf h.2]
theorem aveqN_t : ∀ (n : Nat) {a b : AV}, aveqN n a b = true → a = b
  | 0, _, _, h => by cases h
  | n + 1, ⟨t, x, y, z, c, l, r⟩, ⟨t', x', y', z', c', l', r'⟩, h => by
    unfold aveqN at h
    simp only [Bool.and_eq_true, beq_t] at h
    obtain ⟨⟨⟨⟨⟨⟨h1, h2⟩, h3⟩, h4⟩, h5⟩, h6⟩, h7⟩ := h
    have e1 := eqL_t (fun x y q => aveqN_t n q) h6
    have e2 := eqL_t (fun x y q => aveqN_t n q) h7
    subst h1; subst h2; subst h3; subst h4; subst h5; subst e1; subst e2; rfl
theorem again_mem {ops : List Oper} {as : List (List Nat)} {j : Nat} {i : Nat} {o : Oper} (ho : lget ops i = some o) (h1 : lookK o.op = true) (h3 : i ∉ ancA as j) : ∀ {l : List Nat}, i ∈ l → i ∈ again ops as j l
  | [], h => by cases h
  | x :: l, h => by
    unfold again
    generalize eb : ((match lget ops x with | some o => lookK o.op | none => false) && !memN x (match lget as j with | some a => a | none => [])) = b
    rcases List.mem_cons.1 h with q | q
    · subst q
      have e : b = true := by
        rw [← eb, ho]; dsimp only
        rw [Bool.and_eq_true, Bool.not_eq_true', memN_f]
        exact ⟨h1, h3⟩
      rw [e]; exact List.mem_cons_self ..
    · have ih := again_mem (as := as) (j := j) ho h1 h3 q
      cases b with
      | true => exact List.mem_cons_of_mem _ ih
      | false => exact ih
end Go.Proofs.YtoffclpjhikjkaaGreat.Ev
namespace Go.Proofs.YtoffclpjhikjkaaGreat.Ev
open Go
section
variable (P : Program) (rec : Rec) (nt : Nat) (rd : Option Nat) (ops : Array Oper)
abbrev Aa (i : Nat) : List Nat := ancA (ancs ops.toList []) i
abbrev EE (listed : Array Bool) (i : Nat) : Prop := listed.getD i false = true
def tv (listed : Array Bool) (tm tm0 : TM) (t : Nat) : AV := match wrOf t ops.toList 0 with
  | some k => if listed.getD k false = true then tget tm t else tget tm0 t
  | none => tget tm0 t
def tx (i : Nat) (tm tm0 : TM) (t : Nat) : AV := match wrOf t ops.toList 0 with
  | some k => if k ∈ Aa ops i then tget tm t else tget tm0 t
  | none => tget tm0 t
def DOk : List Nat → Prop
  | [] => True
  | i :: D => i ∉ D ∧ (∃ o, ops[i]? = some o ∧ depIn D o = true) ∧ DOk D
structure RdT (i : Nat) (o : Oper) (tm tm0 trm : TM) : Prop where
  opd : ∀ t, t < nt → Operand.tmp t ∈ o.op.operands.toList → tget trm t = tx ops i tm tm0 t
  gd : ∀ j want oj d, o.guard = some (j, want) → ops[j]? = some oj → oj.dst = some d → d < nt → tget trm d = tget tm d
def RecL (i : Nat) (o : Oper) (v : AW) (tm tm0 : TM) : Prop := ∃ (sr s2 : St) (ρr : Ren) (wr : World), (opG P nt ops.toList o).f rec (bigW sr) = some s2 ∧ WR P ρr sr.w wr ∧ Sub sr.w v ∧ RdT nt ops i o tm tm0 sr.tm ∧ ∀ d, o.dst = some d → tget s2.tm d = tget tm d
def RecA (i : Nat) (o : Oper) (v : AW) (tm tm0 : TM) (bn : Nat → Option Nat) : Prop := dOk nt o.dst = true ∧ ∃ (trm : TM) (b : Bool), (guardK nt ops.toList o).f trm = some b ∧ RdT nt ops i o tm tm0 trm ∧
  (b = false → ∀ d, o.dst = some d → tget tm d = .undef) ∧
  (b = true → ∃ (nb : Nat) (B : Blk) (c : Bool) (x : AV), AlB nb B c ∧ v.bl.get nb = some B ∧ bn i = some nb ∧ (∀ d, o.dst = some d → tget tm d = x) ∧ ∀ ρ ev w, EvOk ρ (Ev.opd nt o) trm ev → AlF P nb o x B ρ w ev)
def RecO (i : Nat) (o : Oper) (v : AW) (tm tm0 : TM) (bn : Nat → Option Nat) : Prop := quiet o.op = true ∧ ((lookK o.op = true ∧ RecL P rec nt ops i o v tm tm0) ∨ (lookK o.op = false ∧ RecA P nt ops i o v tm tm0 bn))
structure Inv (ρ0 : Ren) (s0 : St) (w0 : World) (D : List Nat) (s : St) (listed : Array Bool) (ρ : Ren) (a : Act) (w : World) : Prop where
  ls : listed.size = ops.size
  ed : ∀ i, EE listed i → i ∈ D
  cl : Closed ops.toList (EE listed)
  act : ∀ i o, i ∈ D → ops[i]? = some o → quiet o.op = false → EE listed i
  dok : DOk ops D
  sz : a.tmps.size = nt
  le : nt ≤ 256
  tm : ∀ t x, a.tmps[t]? = some x → VR ρ (tv ops listed s.tm s0.tm t) x
  un : ∀ t, t < nt → (∀ k, wrOf t ops.toList 0 = some k → k ∉ D) → tget s.tm t = tget s0.tm t
  same : s.ds = s0.ds ∧ s.rnd = s0.rnd ∧ s.df = s0.df
  ds : DRs ρ s.ds a.defers
  rnd : RndOk ρ s.rnd rd
  wr : WR P ρ s.w w
  stp : Stp ρ0 s0.w w0 ρ s.w w
  rcs : ∃ bn : Nat → Option Nat, (∀ i j b, bn i = some b → bn j = some b → i = j) ∧ (∀ i b, bn i = some b → i ∈ D ∧ s0.w.nx ≤ b ∧ b < s.w.nx ∧ (¬ EE listed i → ρ b = none)) ∧ ∀ i o, i ∈ D → ¬ EE listed i → ops[i]? = some o → RecO P rec nt ops i o s.w s.tm s0.tm bn
end
section
variable {P : Program} {rec : Rec} {nt : Nat} {rd : Option Nat} {ops : Array Oper}
theorem DOk.lt : ∀ {D : List Nat}, DOk ops D → ∀ i ∈ D, ∃ o, ops[i]? = some o
  | [], _, i, h => by cases h
  | j :: D, q, i, h => by
    rcases List.mem_cons.1 h with e | e
    · subst e; obtain ⟨o, ho, _⟩ := q.2.1; exact ⟨o, ho⟩
    · exact DOk.lt q.2.2 i e
theorem DOk.closed : ∀ {D : List Nat}, DOk ops D → Closed ops.toList (· ∈ D)
  | [], _, i, o, _, h, _, _, _ => by cases h
  | j :: D, q, i, o, ho, h, e, he, hb => by
    rcases List.mem_cons.1 h with e' | e'
    · subst e'
      obtain ⟨o', ho', hd⟩ := q.2.1
      rw [Array.getElem?_toList, ho'] at ho; injection ho with ho; subst ho
      exact List.mem_cons_of_mem _ (depIn_t.1 hd e he hb)
    · exact List.mem_cons_of_mem _ (DOk.closed q.2.2 i o ho e' e he hb)
theorem DOk.anc {D : List Nat} (h : DOk ops D) {k : Nat} (hk : k ∈ D) : ∀ x ∈ Aa ops k, x ∈ D := by
  obtain ⟨o, ho⟩ := h.lt k hk
  exact anc_closed (L := ops.toList) (E := (· ∈ D)) h.closed (by rw [Array.getElem?_toList]; exact ho) (fun e he hb => h.closed k o (by rw [Array.getElem?_toList]; exact ho) hk e he hb)
theorem dep_anc {D : List Nat} (h : DOk ops D) {i : Nat} {o : Oper} (ho : ops[i]? = some o) (hd : depIn D o = true) : ∀ x ∈ Aa ops i, x ∈ D :=
  anc_closed (L := ops.toList) (E := (· ∈ D)) h.closed (by rw [Array.getElem?_toList]; exact ho) (depIn_t.1 hd)
theorem ee_anc {listed : Array Bool} (h : Closed ops.toList (EE listed)) {i : Nat} {o : Oper} (ho : ops[i]? = some o) (hd : ∀ e ∈ o.after.toList, Region.binds .any e = true → EE listed e.on) : ∀ x ∈ Aa ops i, EE listed x :=
  anc_closed (L := ops.toList) (E := EE listed) h (by rw [Array.getElem?_toList]; exact ho) hd
/-- what is checked when the region is compiled -/
structure Chk (nt : Nat) (ops : Array Oper) : Prop where
  once : onceT ops.toList = true
  rds : readsOk ops.toList (ancs ops.toList []) ops.toList 0 = true
theorem Chk.wr (h : Chk nt ops) {i : Nat} {o : Oper} {d : Tmp} (ho : ops[i]? = some o) (hd : o.dst = some d) : wrOf d ops.toList 0 = some i := by
  have := wr_of (i := 0) h.once (m := i) (o := o) (by rw [Array.getElem?_toList]; exact ho) hd
  rw [this, Nat.zero_add]
theorem Chk.wr_ops {t k : Nat} (h : wrOf t ops.toList 0 = some k) : ∃ o, ops[k]? = some o ∧ o.dst = some t := by
  obtain ⟨m, o, h1, h2, h3⟩ := wr_some h
  rw [Nat.zero_add] at h1; subst h1
  exact ⟨o, by rw [Array.getElem?_toList] at h2; exact h2, h3⟩
theorem Chk.rdk (h : Chk nt ops) {i : Nat} {o : Oper} (ho : ops[i]? = some o) {t k : Nat} (ht : Operand.tmp t ∈ o.op.operands.toList) (hk : wrOf t ops.toList 0 = some k) : k ∈ Aa ops i ∨ i ∈ Aa ops k := by
  have := (readsOk_t h.rds i o (by rw [Array.getElem?_toList]; exact ho)).1
  rw [Nat.zero_add] at this
  exact readOk_t this t ht k hk
theorem Chk.gd (h : Chk nt ops) {i j : Nat} {want : Bool} {o : Oper} (ho : ops[i]? = some o) (hg : o.guard = some (j, want)) : j ∈ Aa ops i := by
  have := (readsOk_t h.rds i o (by rw [Array.getElem?_toList]; exact ho)).2
  rw [Nat.zero_add] at this
  unfold gdOk at this
  rw [hg] at this
  exact memN_t.1 this
theorem opG_inv {o : Oper} {s s' : St} (h : (opG P nt ops.toList o).f rec s = some s') : dOk nt o.dst = true ∧ ∃ b, (guardK nt ops.toList o).f s.tm = some b ∧ (b = true → (opC P nt o).f rec s = some s') ∧ (b = false → (fin o.dst).f s .undef = some s') := by
  unfold opG at h
  cases hg : o.guard with
  | none =>
    rw [hg] at h
    have h1 := (opC_ok h).1
    unfold opOk at h1
    rw [Bool.and_eq_true] at h1
    exact ⟨h1.1, true, by unfold guardK; rw [hg], fun _ => h, fun q => by cases q⟩
  | some q =>
    rw [hg] at h
    dsimp only at h
    cases hd : dOk nt o.dst with
    | false => rw [hd] at h; cases h
    | true =>
      rw [hd] at h
      simp only [cond_true] at h
      obtain ⟨b, hb, h⟩ := seqO_some.1 h
      refine ⟨rfl, b, hb, fun q => by subst q; exact h, fun q => by subst q; exact h⟩
theorem tget_put {o : Oper} {tm : TM} {x : AV} (hle : nt ≤ 256) (hd : dOk nt o.dst = true) {t : Nat} (ht : t < nt) (hn : o.dst ≠ some t) : tget ((putK o.dst).f tm x) t = tget tm t := by
  cases h : o.dst with
  | none => rfl
  | some d =>
    rw [h] at hd hn
    have hd : d < nt := by
      have : Nat.blt d nt = true := hd
      rw [blt_d, decide_eq_true_eq] at this; exact this
    show tget ((setp D d).f tm x) t = _
    rw [tget_set (Nat.lt_of_lt_of_le (by first | exact ht | exact hd) hle) (Nat.lt_of_lt_of_le hd hle), if_neg (fun e => hn (by rw [e]))]
theorem tget_dst {o : Oper} {tm : TM} {x : AV} (hle : nt ≤ 256) (hd : dOk nt o.dst = true) {d : Nat} (h : o.dst = some d) : tget ((putK o.dst).f tm x) d = x := by
  rw [h] at hd ⊢
  have hd : d < nt := by
    have : Nat.blt d nt = true := hd
    rw [blt_d, decide_eq_true_eq] at this; exact this
  show tget ((setp D d).f tm x) d = _
  rw [tget_set (Nat.lt_of_lt_of_le (by first | exact ht | exact hd) hle) (Nat.lt_of_lt_of_le hd hle), if_pos rfl]
theorem dst_lt {o : Oper} (hd : dOk nt o.dst = true) {d : Nat} (h : o.dst = some d) : d < nt := by
  rw [h] at hd
  have : Nat.blt d nt = true := hd
  rw [blt_d, decide_eq_true_eq] at this; exact this
/-- records stay, where what they speak of stays -/
theorem RdT.mono {i : Nat} {o : Oper} {tm tm' tm0 trm : TM} {D : List Nat} (hc : Chk nt ops) (hD : DOk ops D) (hi : i ∈ D) (ho : ops[i]? = some o) (hs : ∀ t k, t < nt → wrOf t ops.toList 0 = some k → k ∈ D → tget tm' t = tget tm t) (h : RdT nt ops i o tm tm0 trm) : RdT nt ops i o tm' tm0 trm := by
  refine ⟨fun t ht hm => ?_, fun j want oj d h1 h2 h3 h4 => ?_⟩
  · rw [h.opd t ht hm]
    unfold tx
    cases hw : wrOf t ops.toList 0 with
    | none => rfl
    | some k =>
      dsimp only
      by_cases hk : k ∈ Aa ops i
      · rw [if_pos hk, if_pos hk, hs t k ht hw (hD.anc hi k hk)]
      · rw [if_neg hk, if_neg hk]
  · rw [h.gd j want oj d h1 h2 h3 h4, hs d j h4 (hc.wr h2 h3) (hD.anc hi j (hc.gd ho h1))]
theorem RecO.mono {i : Nat} {o : Oper} {v v' : AW} {tm tm' tm0 : TM} {bn bn' : Nat → Option Nat} {D : List Nat} (hc : Chk nt ops) (hD : DOk ops D) (hi : i ∈ D) (ho : ops[i]? = some o) (hs : ∀ t k, t < nt → wrOf t ops.toList 0 = some k → k ∈ D → tget tm' t = tget tm t) (hv : Sub v v') (hb : bn' i = bn i) (h : RecO P rec nt ops i o v tm tm0 bn) : RecO P rec nt ops i o v' tm' tm0 bn' := by
  refine ⟨h.1, ?_⟩
  rcases h.2 with ⟨h1, sr, s2, ρr, wr, k1, k2, k3, k4, k5⟩ | ⟨h1, h0, trm, b, k1, k2, k3, k4⟩
  · refine .inl ⟨h1, sr, s2, ρr, wr, k1, k2, k3.trans hv, k4.mono hc hD hi ho hs, fun d hd => ?_⟩
    rw [k5 d hd, hs d i (dst_lt (opG_inv k1).1 hd) (hc.wr ho hd) hi]
  · refine .inr ⟨h1, h0, trm, b, k1, k2.mono hc hD hi ho hs, fun q d hd => ?_, fun q => ?_⟩
    · rw [hs d i (dst_lt h0 hd) (hc.wr ho hd) hi]; exact k3 q d hd
    · obtain ⟨nb, B, c, x, m1, m2, m3, m4, m5⟩ := k4 q
      exact ⟨nb, B, c, x, m1, hv.bl _ _ m2, hb.trans m3, fun d hd => by rw [hs d i (dst_lt h0 hd) (hc.wr ho hd) hi]; exact m4 d hd, m5⟩
end
end Go.Proofs.YtoffclpjhikjkaaGreat.Ev
namespace Go.Proofs.YtoffclpjhikjkaaGreat.Ev
open Go
section
variable {P : Program} {rec : Rec} {nt : Nat} {rd : Option Nat} {ops : Array Oper}
variable {ρ0 ρ : Ren} {s0 s s' : St} {w0 w : World} {D : List Nat} {listed : Array Bool} {a : Act}
/-- what is read at number i's turn in the plan -/
theorem Inv.reads (h : Inv P rec nt rd ops ρ0 s0 w0 D s listed ρ a w) (hc : Chk nt ops) {i : Nat} {o : Oper} (ho : ops[i]? = some o) (hi : i ∉ D) (hd : depIn D o = true) {tm' : TM} (htm : ∀ t, t < nt → o.dst ≠ some t → tget tm' t = tget s.tm t) : RdT nt ops i o tm' s0.tm s.tm := by
  have hA := dep_anc h.dok ho hd
  refine ⟨fun t ht hm => ?_, fun j want oj d h1 h2 h3 h4 => ?_⟩
  · unfold tx
    cases hw : wrOf t ops.toList 0 with
    | none => exact h.un t ht (fun k q => by rw [hw] at q; cases q)
    | some k =>
      dsimp only
      have hne : k ∈ D → o.dst ≠ some t := fun hk e => by
        have := hc.wr ho e
        rw [hw] at this; injection this with this
        subst this; exact hi hk
      by_cases hk : k ∈ Aa ops i
      · rw [if_pos hk]; exact (htm t ht (hne (hA k hk))).symm
      · rw [if_neg hk]
        refine h.un t ht fun k' q hk' => ?_
        rw [hw] at q; injection q with q; subst q
        rcases hc.rdk ho hm hw with q | q
        · exact hk q
        · exact hi (h.dok.anc hk' i q)
  · have hj := hA j (hc.gd ho h1)
    refine (htm d h4 fun e => ?_).symm
    have h5 := hc.wr ho e
    rw [hc.wr h2 h3] at h5; injection h5 with h5
    subst h5; exact hi hj
theorem Inv.next (h : Inv P rec nt rd ops ρ0 s0 w0 D s listed ρ a w) (hc : Chk nt ops) {i : Nat} {o : Oper} (ho : ops[i]? = some o) (hi : i ∉ D) (hd : depIn D o = true) (hdst : dOk nt o.dst = true) (hq : quiet o.op = true) {x : AV} {v : AW} (hv : Sub s.w v) (hvb : ∀ b B, v.bl.get b = some B → b < s.w.nx → s.w.bl.get b = some B) (hWv : WR P ρ v w) {bi : Option Nat} (hbi : ∀ b, bi = some b → b = s.w.nx ∧ b < v.nx)
    (hr : ∀ bn, bn i = bi → RecO P rec nt ops i o v ((putK o.dst).f s.tm x) s0.tm bn) : Inv P rec nt rd ops ρ0 s0 w0 (i :: D) ⟨(putK o.dst).f s.tm x, s.ds, v, s.rnd, s.df⟩ listed ρ a w := by
  obtain ⟨bn, b1, b2, b3⟩ := h.rcs
  have hne : ∀ t k, wrOf t ops.toList 0 = some k → k ∈ D → o.dst ≠ some t := fun t k hw hk e => by
    have := hc.wr ho e
    rw [hw] at this; injection this with this
    subst this; exact hi hk
  have hkeep : ∀ t k, t < nt → wrOf t ops.toList 0 = some k → k ∈ D → tget ((putK o.dst).f s.tm x) t = tget s.tm t := fun t k ht hw hk => tget_put h.le hdst ht (hne t k hw hk)
  have hbni : bn i = none := by
    cases hq : bn i with
    | none => rfl
    | some b => exact absurd (b2 i b hq).1 hi
  refine ⟨h.ls, fun j hj => List.mem_cons_of_mem _ (h.ed j hj), h.cl, fun j oj hj hoj hqj => ?_, ⟨hi, ⟨o, ho, hd⟩, h.dok⟩, h.sz, h.le, fun t y hy => ?_, fun t ht hk => ?_, h.same, h.ds, h.rnd, hWv, h.stp.plan h.wr hv hvb, ?_⟩
  · rcases List.mem_cons.1 hj with e | e
    · subst e; rw [ho] at hoj; injection hoj with hoj; subst hoj; rw [hq] at hqj; cases hqj
    · exact h.act j oj e hoj hqj
  · have ht : t < nt := by
      have := (Array.getElem?_eq_some_iff.1 hy).1
      rw [h.sz] at this; exact this
    have := h.tm t y hy
    unfold tv at this ⊢
    cases hw : wrOf t ops.toList 0 with
    | none => rw [hw] at this; exact this
    | some k =>
      rw [hw] at this
      dsimp only at this ⊢
      by_cases hk : listed.getD k false = true
      · rw [if_pos hk] at this ⊢
        rw [hkeep t k ht hw (h.ed k hk)]; exact this
      · rw [if_neg hk] at this ⊢; exact this
  · have hn : o.dst ≠ some t := fun e => hk i (hc.wr ho e) (List.mem_cons_self ..)
    show tget ((putK o.dst).f s.tm x) t = _
    rw [tget_put h.le hdst ht hn]
    exact h.un t ht fun k q hkD => hk k q (List.mem_cons_of_mem _ hkD)
  · refine ⟨fun k => if k = i then bi else bn k, fun k1 k2 b q1 q2 => ?_, fun k b q => ?_, fun k ok hk hlk hok => ?_⟩
    · by_cases e1 : k1 = i
      · by_cases e2 : k2 = i
        · rw [e1, e2]
        · dsimp only at q1 q2; rw [if_pos e1] at q1; rw [if_neg e2] at q2
          have := (b2 k2 b q2).2.2.1; have := (hbi b q1).1; omega
      · by_cases e2 : k2 = i
        · dsimp only at q1 q2; rw [if_neg e1] at q1; rw [if_pos e2] at q2
          have := (b2 k1 b q1).2.2.1; have := (hbi b q2).1; omega
        · dsimp only at q1 q2; rw [if_neg e1] at q1; rw [if_neg e2] at q2; exact b1 k1 k2 b q1 q2
    · by_cases e1 : k = i
      · dsimp only at q; rw [if_pos e1] at q
        obtain ⟨rfl, q2⟩ := hbi b q
        exact ⟨by rw [e1]; exact List.mem_cons_self .., h.stp.nx, q2, fun _ => new_none h.wr⟩
      · dsimp only at q; rw [if_neg e1] at q
        obtain ⟨m1, m2, m3, m4⟩ := b2 k b q
        exact ⟨List.mem_cons_of_mem _ m1, m2, Nat.lt_of_lt_of_le m3 hv.nx, m4⟩
    · by_cases e1 : k = i
      · subst e1
        rw [ho] at hok; injection hok with hok; subst hok
        exact hr _ (if_pos rfl)
      · have hkD : k ∈ D := by
          rcases List.mem_cons.1 hk with e | e
          · exact absurd e e1
          · exact e
        exact (b3 k ok hkD hlk hok).mono hc h.dok hkD hok hkeep hv (if_neg e1)
/-- a quiet operation that is looked at again, planned -/
theorem Inv.planL (h : Inv P rec nt rd ops ρ0 s0 w0 D s listed ρ a w) (hc : Chk nt ops) {i : Nat} {o : Oper} (ho : ops[i]? = some o) (hi : i ∉ D) (hd : depIn D o = true) (hq : quiet o.op = true) (hl : lookK o.op = true) {s2 : St} (hg : (opG P nt ops.toList o).f rec (bigW s) = some s2) :
    Inv P rec nt rd ops ρ0 s0 w0 (i :: D) ⟨(putK o.dst).f s.tm ((dstV o).f s2.tm), s.ds, s.w, s.rnd, s.df⟩ listed ρ a w := by
  have hdst := (opG_inv hg).1
  refine h.next hc ho hi hd hdst hq (Sub.refl _) (fun b B q _ => q) h.wr (bi := none) (fun b q => by cases q) fun bn _ => ⟨hq, .inl ⟨hl, s, s2, ρ, w, hg, h.wr, Sub.refl _, h.reads hc ho hi hd (fun t ht hn => tget_put h.le hdst ht hn), fun d hd' => ?_⟩⟩
  rw [tget_dst h.le hdst hd']
  unfold dstV; rw [hd']; rfl
/-- an allocation, planned -/
theorem Inv.planA (h : Inv P rec nt rd ops ρ0 s0 w0 D s listed ρ a w) (hc : Chk nt ops) {i : Nat} {o : Oper} (ho : ops[i]? = some o) (hi : i ∉ D) (hd : depIn D o = true) (hq : quiet o.op = true) (hl : lookK o.op = false) (hal : ∀ s s', (opC P nt o).f rec s = some s' → AlOf P (opd nt o) o s s') {s2 : St} (hg : (opG P nt ops.toList o).f rec s = some s2) :
    Inv P rec nt rd ops ρ0 s0 w0 (i :: D) s2 listed ρ a w := by
  obtain ⟨hdst, b, g1, g2, g3⟩ := opG_inv hg
  cases b with
  | false =>
    have g := g3 rfl
    injection g with g
    subst g
    refine h.next hc ho hi hd hdst hq (Sub.refl _) (fun b B q _ => q) h.wr (bi := none) (fun b q => by cases q) fun bn _ => ⟨hq, .inr ⟨hl, hdst, s.tm, false, g1, h.reads hc ho hi hd (fun t ht hn => tget_put h.le hdst ht hn), fun _ d hd' => tget_dst h.le hdst hd', fun q => by cases q⟩⟩
  | true =>
    obtain ⟨B, c, x, v, k1, rfl, k3, k4⟩ := hal s s2 (g2 rfl)
    obtain ⟨p1, p2, p3, p4, p5, p6⟩ := h.wr.plan k1 k3
    refine h.next hc ho hi hd hdst hq p2 (fun b B' q hb => ?_) p1 (bi := some s.w.nx) (fun b q => by injection q with q; subst q; exact ⟨rfl, by omega⟩) fun bn hb => ⟨hq, .inr ⟨hl, hdst, s.tm, true, g1, h.reads hc ho hi hd (fun t ht hn => tget_put h.le hdst ht hn), fun q => (by cases q), fun _ => ⟨s.w.nx, B, c, x, k3, p4, hb, fun d hd' => tget_dst h.le hdst hd', k4⟩⟩⟩
    obtain ⟨_, _, _, e4, _⟩ := new_some k1
    rw [e4, PT.get_set _ _ _ _ p6, if_neg (by omega)] at q
    exact q
end
end Go.Proofs.YtoffclpjhikjkaaGreat.Ev
namespace Go.Proofs.YtoffclpjhikjkaaGreat.Ev
open Go
theorem ee_set {listed : Array Bool} {i k : Nat} (hi : i < listed.size) : EE (listed.setIfInBounds i true) k ↔ k = i ∨ EE listed k := by
  unfold EE
  by_cases hk : k = i
  · subst hk
    simp [Array.getD_eq_getD_getElem?, hi]
  · rw [getD_set_ne false (fun e => hk e.symm)]; simp [hk]
theorem ops_mem {ops : Array Oper} {i : Nat} {o : Oper} (h : ops[i]? = some o) : o ∈ ops.toList := by
  obtain ⟨h1, h2⟩ := Array.getElem?_eq_some_iff.1 h
  rw [← h2]; simp
section
variable {P : Program} {rec : Rec} {nt : Nat} {rd : Option Nat} {ops : Array Oper}
variable {ρ0 ρ : Ren} {s0 s s' : St} {w0 w : World} {D : List Nat} {listed : Array Bool} {a : Act}
theorem looks_t {rec : Rec} {s s3 : St} : ∀ {l : List Nat}, (looks P nt ops.toList l).f rec s = some s3 → s3 = s ∧ ∀ i ∈ l, ∃ o d s2, ops[i]? = some o ∧ o.dst = some d ∧ (opG P nt ops.toList o).f rec (bigW s) = some s2 ∧ tget s2.tm d = tget s.tm d
  | [], h => by injection h with h; exact ⟨h.symm, fun i hi => by cases hi⟩
  | i :: l, h => by
    unfold looks at h
    rw [lget_eq, Array.getElem?_toList] at h
    cases ho : ops[i]? with
    | none => rw [ho] at h; cases h
    | some o =>
      rw [ho] at h
      obtain ⟨s1, h1, h2⟩ := seqO_some.1 h
      unfold look2 at h1
      cases hd : o.dst with
      | none => rw [hd] at h1; cases h1
      | some d =>
        rw [hd] at h1
        dsimp only at h1
        obtain ⟨s2, k1, k2⟩ := seqO_some.1 h1
        obtain ⟨k4, k3⟩ := ifB_some.1 k2
        injection k3 with k3
        subst k3
        obtain ⟨e, hh⟩ := looks_t h2
        refine ⟨e, fun j hj => ?_⟩
        rcases List.mem_cons.1 hj with q | q
        · subst q; exact ⟨o, d, s2, ho, hd, k1, aveqN_t _ k4⟩
        · exact hh j q
theorem Inv.ev (h : Inv P rec nt rd ops ρ0 s0 w0 D s listed ρ a w) (hc : Chk nt ops) {i : Nat} {o : Oper} (ho : ops[i]? = some o) (hn : ¬ EE listed i) (hdep : ∀ e ∈ o.after.toList, Region.binds .any e = true → EE listed e.on) {trm : TM} (hR : RdT nt ops i o s.tm s0.tm trm) :
    EvOk ρ (opd nt o) trm a.eval ∧ ∀ j want oj d, o.guard = some (j, want) → ops[j]? = some oj → oj.dst = some d → d < nt → ∃ x, a.tmps[d]? = some x ∧ VR ρ (tget trm d) x := by
  have hA := ee_anc h.cl ho hdep
  have hval : ∀ t, t < nt → ∃ x, a.tmps[t]? = some x ∧ VR ρ (tv ops listed s.tm s0.tm t) x := fun t ht => by
    have ht' : t < a.tmps.size := by rw [h.sz]; exact ht
    have : a.tmps[t]? = some a.tmps[t] := Array.getElem?_eq_getElem ht'
    exact ⟨_, this, h.tm t _ this⟩
  refine ⟨fun x hx => ?_, fun j want oj d h1 h2 h3 h4 => ?_⟩
  · cases x with
    | const v => exact ofV_vr 4 v
    | global g => exact .any ..
    | func f => exact .fn f [] [] #[] #[] .nil .nil
    | tmp t =>
      unfold Ev.opd at hx
      rw [Bool.and_eq_true] at hx
      have ht : t < nt := by
        have : Nat.blt t nt = true := hx.1
        rw [blt_d, decide_eq_true_eq] at this; exact this
      have hm : Operand.tmp t ∈ o.op.operands.toList := by
        obtain ⟨y, hy, hy2⟩ := List.any_eq_true.1 hx.2
        cases y <;> first | (cases hy2; done) | skip
        rename_i u
        have : Nat.beq t u = true := hy2
        rw [beq_t] at this; subst this; exact hy
      obtain ⟨y, hy, hv⟩ := hval t ht
      have e1 : tget trm t = tv ops listed s.tm s0.tm t := by
        rw [hR.opd t ht hm]
        unfold tx tv
        cases hw : wrOf t ops.toList 0 with
        | none => rfl
        | some k =>
          dsimp only
          by_cases hk : k ∈ Aa ops i
          · rw [if_pos hk, if_pos (hA k hk)]
          · rw [if_neg hk]
            have hik : i ∈ Aa ops k := by
              rcases hc.rdk ho hm hw with q | q
              · exact absurd q hk
              · exact q
            obtain ⟨ok, hok, _⟩ := Chk.wr_ops hw
            rw [if_neg fun he => hn (ee_anc h.cl hok (fun e q1 q2 => h.cl k ok (by rw [Array.getElem?_toList]; exact hok) he e q1 q2) i hik)]
      have e2 : a.eval (.tmp t) = y := by
        show a.tmps.getD t undef = y
        rw [Array.getD_eq_getD_getElem?, hy]; rfl
      show VR ρ (tget trm t) (a.eval (.tmp t))
      rw [e1, e2]; exact hv
  · obtain ⟨y, hy, hv⟩ := hval d h4
    refine ⟨y, hy, ?_⟩
    rw [hR.gd j want oj d h1 h2 h3 h4]
    have := hv
    unfold tv at this
    rw [hc.wr h2 h3] at this
    dsimp only at this
    rw [if_pos (hA j (hc.gd ho h1))] at this
    exact this
/-- a planned operation has been done -/
theorem Inv.put (h : Inv P rec nt rd ops ρ0 s0 w0 D s listed ρ a w) (hc : Chk nt ops) {i : Nat} {o : Oper} (ho : ops[i]? = some o) (hi : i ∈ D) (hn : ¬ EE listed i) (hdep : ∀ e ∈ o.after.toList, Region.binds .any e = true → EE listed e.on) (hdst : dOk nt o.dst = true) {σ : Ren} {y : Value} {w' : World} (hy : ∀ d, o.dst = some d → VR σ (tget s.tm d) y) (hσ : ρ.le σ) (hw : WR P σ s.w w') (hst : Stp ρ0 s0.w w0 σ s.w w')
    (hrc : ∃ bn : Nat → Option Nat, (∀ i j b, bn i = some b → bn j = some b → i = j) ∧ (∀ k b, bn k = some b → k ∈ D ∧ s0.w.nx ≤ b ∧ b < s.w.nx ∧ (¬ EE listed k → k ≠ i → σ b = none)) ∧ ∀ k o, k ∈ D → ¬ EE listed k → ops[k]? = some o → RecO P rec nt ops k o s.w s.tm s0.tm bn) :
    Inv P rec nt rd ops ρ0 s0 w0 D s (listed.setIfInBounds i true) σ (a.put o.dst y) w' := by
  have hil : i < listed.size := by rw [h.ls]; exact (Array.getElem?_eq_some_iff.1 ho).1
  obtain ⟨bn, b1, b2, b3⟩ := hrc
  refine ⟨by rw [Array.size_setIfInBounds]; exact h.ls, fun k hk => ?_, fun k ok hok hk e he hb => ?_, fun k ok hk hok hq => (ee_set hil).2 (.inr (h.act k ok hk hok hq)), h.dok, by rw [put_size]; exact h.sz, h.le, fun t x hx => ?_, h.un, h.same, by rw [put_defers]; exact h.ds.mono hσ, h.rnd.mono hσ, hw, hst, bn, b1, fun k b q => ?_, fun k ok hk hnk hok => b3 k ok hk (fun q => hnk ((ee_set hil).2 (.inr q))) hok⟩
  · rcases (ee_set hil).1 hk with e | e
    · rw [e]; exact hi
    · exact h.ed k e
  · rcases (ee_set hil).1 hk with e' | e'
    · subst e'
      rw [Array.getElem?_toList, ho] at hok; injection hok with hok; subst hok
      exact (ee_set hil).2 (.inr (hdep e he hb))
    · exact (ee_set hil).2 (.inr (h.cl k ok hok e' e he hb))
  · have hold : o.dst ≠ some t → VR σ (tv ops (listed.setIfInBounds i true) s.tm s0.tm t) x := fun hne => by
      have hx' : a.tmps[t]? = some x := by
        cases hd : o.dst with
        | none => rw [hd] at hx; exact hx
        | some d =>
          rw [hd] at hx hne
          have : (a.tmps.setIfInBounds d y)[t]? = some x := hx
          rw [Array.getElem?_setIfInBounds_ne (fun e => hne (by rw [e]))] at this
          exact this
      have := h.tm t x hx'
      unfold tv at this ⊢
      cases hw' : wrOf t ops.toList 0 with
      | none => rw [hw'] at this; exact this.mono hσ
      | some k =>
        rw [hw'] at this
        dsimp only at this ⊢
        have hki : k ≠ i := fun e => by
          subst e
          obtain ⟨ok, hok, hdk⟩ := Chk.wr_ops hw'
          rw [ho] at hok; injection hok with hok; subst hok
          exact hne hdk
        rw [getD_set_ne false (fun e => hki e.symm)]
        exact this.mono hσ
    by_cases hd : o.dst = some t
    · have hw' := hc.wr ho hd
      unfold tv
      rw [hw']
      dsimp only
      rw [if_pos ((ee_set hil).2 (.inl rfl))]
      have e1 : x = y := by
        rw [hd] at hx
        have hts : t < a.tmps.size := by rw [h.sz]; exact dst_lt hdst hd
        have : (a.tmps.setIfInBounds t y)[t]? = some x := hx
        rw [Array.getElem?_setIfInBounds_self_of_lt hts] at this
        injection this with this; exact this.symm
      rw [e1]; exact hy t hd
    · exact hold hd
  · obtain ⟨m1, m2, m3, m4⟩ := b2 k b q
    refine ⟨m1, m2, m3, fun hk => m4 (fun e => hk ((ee_set hil).2 (.inr e))) (fun e => hk ((ee_set hil).2 (.inl e)))⟩
theorem FW_sem {o : Oper} (hq : quiet o.op = true) (ev : Operand → Value) : o.semAt rd ev = execOp ev o := Oper.semAt_eq rd ev o fun c e => by rw [e] at hq; cases hq
/-- a planned operation, done -/
theorem Inv.run (h : Inv P rec nt rd ops ρ0 s0 w0 D s listed ρ a w) (hc : Chk nt ops) {i : Nat} {o : Oper} (ho : ops[i]? = some o) (hi : i ∈ D) (hn : ¬ EE listed i) (hdep : ∀ e ∈ o.after.toList, Region.binds .any e = true → EE listed e.on) (hO : OpS P rec nt o) (K : Act → World → Prop) (Q : Exit → Act → World → Prop)
    (hK : ∀ ρ' a' w', Inv P rec nt rd ops ρ0 s0 w0 D s (listed.setIfInBounds i true) ρ' a' w' → K a' w') : wpOpIn (FW rd) 0 P ops Q i K a w := by
  obtain ⟨bn, b1, b2, b3⟩ := h.rcs
  obtain ⟨hq, hrec⟩ := b3 i o hi hn ho
  rcases hrec with ⟨hl, sr, s2, ρr, wr, k1, k2, k3, k4, k5⟩ | ⟨hl, hdst, trm, b, k1, k2, k3, k4⟩
  · obtain ⟨hE, hG⟩ := h.ev hc ho hn hdep k4
    have hdst := (opG_inv k1).1
    refine opG_step (s := bigW sr) ho hO k1 (h.wr.sub k3 k2) hE hG K Q fun x v σ y w' e1 e2 e3 e4 e5 e6 => ?_
    have hpure : w' = w ∧ σ = ρ := by
      rcases e6 hl with ⟨_, q1, q2⟩ | q
      · exact ⟨q1, q2⟩
      · exact absurd (Nat.lt_of_lt_of_le q e4.nx) (Nat.lt_irrefl _)
    obtain ⟨rfl, rfl⟩ := hpure
    refine hK σ _ w' (h.put hc ho hi hn hdep hdst (fun d hd => ?_) (Ren.le.refl _) h.wr h.stp ⟨bn, b1, fun k b q => ?_, b3⟩)
    · rw [← k5 d hd, e1]
      show VR σ (tget ((putK o.dst).f sr.tm x) d) y
      rw [tget_dst h.le hdst hd]; exact e3
    · obtain ⟨m1, m2, m3, m4⟩ := b2 k b q
      exact ⟨m1, m2, m3, fun hk _ => m4 hk⟩
  · obtain ⟨hE, hG⟩ := h.ev hc ho hn hdep k2
    have hwant := gd_run (nt := nt) hG k1
    unfold wpOpIn
    rw [ho]; dsimp only
    cases b with
    | false =>
      rw [hwant, if_neg (by decide)]
      refine ⟨fun _ _ => trivial, hK ρ _ w (h.put hc ho hi hn hdep hdst (fun d hd => ?_) (Ren.le.refl _) h.wr h.stp ⟨bn, b1, fun k b q => ?_, b3⟩)⟩
      · rw [k3 rfl d hd]; exact .undef
      · obtain ⟨m1, m2, m3, m4⟩ := b2 k b q
        exact ⟨m1, m2, m3, fun hk _ => m4 hk⟩
    | true =>
      obtain ⟨nb, B, c, x, m1, m2, m3, m4, m5⟩ := k4 rfl
      obtain ⟨ob, y, r1, r2⟩ := m5 ρ a.eval w hE
      obtain ⟨n1, n2, n3, n4⟩ := b2 i nb m3
      have hnone := n4 hn
      have hle := Ren.add_le (t := ⟨w.heap.size, 0, none⟩) hnone
      obtain ⟨v1, v2⟩ := r2 _ hle (Ren.add_same _ _ _)
      rw [hwant, if_pos rfl]
      unfold Oper.wpIn
      refine ⟨fun _ _ => trivial, ?_⟩
      show o.uponIn (FW rd) 0 P a K Q ((o.semAt rd a.eval).run P w)
      rw [FW_sem hq, r1, Oper.uponIn_value]
      refine hK (ρ.add nb ⟨w.heap.size, 0, none⟩) _ _ (h.put hc ho hi hn hdep hdst (fun d hd => ?_) hle (h.wr.make (ob := ob) hnone n3 rfl v2 m2) (h.stp.make hnone n2 rfl rfl rfl rfl) ⟨bn, b1, fun k b q => ?_, b3⟩)
      · rw [m4 d hd]; exact v1
      · obtain ⟨p1, p2, p3, p4⟩ := b2 k b q
        refine ⟨p1, p2, p3, fun hk hki => ?_⟩
        unfold Ren.add
        rw [if_neg (fun e => hki (b1 k i nb (by rw [← e]; exact q) m3))]
        exact p4 hk
end
end Go.Proofs.YtoffclpjhikjkaaGreat.Ev
