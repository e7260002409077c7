/- Order, whatever the uses; the walk over the reference's At. -/
import Derived.Test.YtkfajeicbkeigaaDoorTN
namespace Go.Proofs.YtkfajeicbkeigaaDoor
open Go.RowKit Go.Maps
set_option maxRecDepth 100000 in
set_option maxHeartbeats 4000000 in
theorem order25 {A : Option Addr} {c : Nat} {us : List Us} {w : World} (h : Uss w A us) (hl : Lim us) (hok : AllOk us) :
    Calls Tryd.prog 25 #[.slice A us.length c] w fun e w' => ∃ B d, e = .returned (.slice B (orderL us).length d) ∧ Nms w' B (orderL us) ∧ Below w.heap.size w w' := by
  rcases chk_two (cnt us) with hc | hc
  · have e : orderL us = ord (keyF us) (nmsU (cnt us)) := if_pos hc
    refine (order25_yes h hl hok hc).mono ?_
    rintro e1 w' ⟨B, d, h1, h2, h3⟩
    refine ⟨B, d, ?_, by rw [e]; exact h2, h3⟩
    rw [e, ord_len, show (nmsU (cnt us)).length = (cnt us).length by simp [nmsU]]
    exact h1
  · have e : orderL us = [] := if_neg (by rw [hc]; decide)
    have HC := Lib.hid (made44_no (c := c) h hl hc)
    rw [e]
    clear h hl hok hc e
    go_enter Tryd.func25, Tryd.ntmps25
    go_wp2_with fail
    refine Calls.mono HC.out ?_
    rintro e w1 ⟨rfl, hb1⟩
    have HB1 := Lib.hid hb1
    clear hb1
    go_wp2_with fail
    go_ret
    exact ⟨none, 0, rfl, fun h => absurd rfl h, HB1.out⟩
theorem stood65 : Tryd.prog.stoodInHeld 65 = false := by kernel_rfl
theorem guard65 : Tryd.prog.eqGuardType Tryd.prog.depth 65 = false := by kernel_rfl
theorem fields65 : (Tryd.prog.fieldsOf 65).toList = [{ name := "Box", type := 63, offset := 0, embedded := false, tag := "", pkgPath := "", byteOffset := 0 }, { name := "Slot", type := 3, offset := 1, embedded := false, tag := "", pkgPath := "", byteOffset := 8 }] := by kernel_rfl
theorem eqIn65 (a b c d : Int) (W : World) : (Op.equalIn 10000 65 (.agg #[.int .u32 a, .int .i64 b]) (.agg #[.int .u32 c, .int .i64 d])).run Tryd.prog W = .ok (a == c && b == d) W := by
  rw [run_equalIn_struct W 9999 65 _ _ (by kernel_rfl) stood65, fields65]
  have p0 : ∀ (x y : Int) (W : World), (part 63 #[.int .u32 x, .int .i64 y] 0).run Tryd.prog W = .ok (.int .u32 x) W := fun _ _ _ => by kernel_rfl
  have p1 : ∀ (x y : Int) (W : World), (part 3 #[.int .u32 x, .int .i64 y] 1).run Tryd.prog W = .ok (.int .i64 y) W := fun _ _ _ => by kernel_rfl
  have q0 : ∀ (x y : Int) (W : World), (Op.equalIn 9999 63 (.int .u32 x) (.int .u32 y)).run Tryd.prog W = .ok (x == y) W := fun x y W => run_equalIn_int W 9998 63 .u32 .u32 x y Tryd.underlying63
  have q1 : ∀ (x y : Int) (W : World), (Op.equalIn 9999 3 (.int .i64 x) (.int .i64 y)).run Tryd.prog W = .ok (x == y) W := fun x y W => run_equalIn_int W 9998 3 .i64 .i64 x y Tryd.underlying3
  simp only [Op.eqFields, Sem.run_bind, p0, p1, q0, q1, Result.andThen_ok, Sem.run_ite, Sem.run_pure]
  cases a == c <;> cases b == d <;> simp
theorem eql65 (a b c d : Int) (W : World) : (binOp .eql 65 (.agg #[.int .u32 a, .int .i64 b]) (.agg #[.int .u32 c, .int .i64 d])).run Tryd.prog W = .ok (.bool (a == c && b == d)) W := by
  rw [run_eql_struct, eqIn65]; rfl
theorem pair_eq {x y : Plc} : ((x.1 == y.1 && x.2 == y.2) = true ∧ x = y) ∨ ((x.1 == y.1 && x.2 == y.2) = false ∧ x ≠ y) := by
  by_cases h : x = y
  · subst h; exact .inl ⟨by simp, rfl⟩
  · refine .inr ⟨?_, h⟩
    by_cases h1 : x.1 = y.1
    · have h2 : x.2 ≠ y.2 := fun e => h (Prod.ext h1 e)
      simp [h2]
    · simp [h1]
def atGo : List Ck → Plc → Nat → Int
  | [], _, _ => -1
  | c :: r, p, k => if c.1 = p then (k : Int) else atGo r p (k + 1)
/-- where a place is among chunks -/
def atI (cs : List Ck) (p : Plc) : Int := atGo cs p 0
theorem atGo_no {cs : List Ck} {p : Plc} : ∀ {k : Nat}, (∀ c ∈ cs, c.1 ≠ p) → atGo cs p k = -1 := by
  induction cs with
  | nil => intro k _; rfl
  | cons c r ih => intro k h; rw [atGo, if_neg (h c (by simp)), ih (fun d hd => h d (by simp [hd]))]
theorem atGo_yes {cs : List Ck} {p : Plc} : ∀ {k : Nat}, (∃ c ∈ cs, c.1 = p) → ∃ i c, atGo cs p k = ((k + i : Nat) : Int) ∧ cs[i]? = some c ∧ c.1 = p := by
  induction cs with
  | nil => rintro k ⟨c, h, _⟩; cases h
  | cons c r ih =>
    intro k h
    by_cases e : c.1 = p
    · exact ⟨0, c, by rw [atGo, if_pos e]; rfl, rfl, e⟩
    · obtain ⟨d, hd, ed⟩ := h
      rcases List.mem_cons.1 hd with rfl | hd
      · exact absurd ed e
      · obtain ⟨i, c', h1, h2, h3⟩ := ih (k := k + 1) ⟨d, hd, ed⟩
        exact ⟨i + 1, c', by rw [atGo, if_neg e, h1]; congr 1; omega, by simpa using h2, h3⟩
theorem atI_no {cs : List Ck} {p : Plc} (h : p ∉ cs.map (·.1)) : atI cs p = -1 := atGo_no (fun c hc e => h (List.mem_map.2 ⟨c, hc, e⟩))
theorem atI_yes {cs : List Ck} {p : Plc} (h : p ∈ cs.map (·.1)) : ∃ (i : Nat) (c : Ck), atI cs p = (i : Int) ∧ cs[i]? = some c ∧ c.1 = p := by
  obtain ⟨c, hc, e⟩ := List.mem_map.1 h
  obtain ⟨i, c', h1, h2, h3⟩ := atGo_yes (k := 0) ⟨c, hc, e⟩
  exact ⟨i, c', by rw [atI, h1]; simp, h2, h3⟩
set_option maxRecDepth 100000 in
set_option maxHeartbeats 2000000 in
theorem at33 {W : World} {A : Option Addr} {c : Nat} {cs : List Ck} (h : Cks W A cs) (hn : cs.length ≤ 1000) (p : Plc) :
    Calls Tryd.prog 33 #[.slice A cs.length c, .agg #[.int .u32 p.1, .int .i64 p.2]] W fun e w' => e = .returned (.int .i64 (atI cs p)) ∧ Below W.heap.size W w' := by
  have H := Lib.hid h
  have hq := eql65
  have hg := guard65
  clear h
  have HE : Hid (atI cs p = atGo (cs.drop 0) p 0) := Lib.hid rfl
  have HST : Hid (∀ k x, cs[k]? = some x → atGo (cs.drop k) p k = if x.1 = p then (k : Int) else atGo (cs.drop (k + 1)) p (k + 1)) := Lib.hid (fun k x hx => by
    have hl := (List.getElem?_eq_some_iff.1 hx).1
    rw [List.drop_eq_getElem_cons hl, atGo]
    rw [List.getElem?_eq_getElem hl] at hx
    rw [Option.some.inj hx])
  have HEND : Hid (atGo (cs.drop cs.length) p cs.length = -1) := Lib.hid (by rw [List.drop_length]; rfl)
  generalize atI cs p = r at *
  obtain ⟨pb, ps⟩ := p
  simp only at *
  go_enter Tryd.func33, Tryd.ntmps33
  go_wp2_with fail
  go_loopg [5] cs.length (fun gk i wr => ∃ k : Nat, k ≤ cs.length ∧ gk = cs.length - k ∧ i = .int .i64 k ∧ Below (W.heap.size + 1) (W.alloc (.cells #[.int .u32 pb, .int .i64 ps] 65)) wr ∧ r = atGo (cs.drop k) (pb, ps) k)
  case atStart => exact ⟨0, Nat.zero_le _, rfl, rfl, Below.refl _ _, HE.out⟩
  case round =>
    obtain ⟨k, hk, hgk, rfl, hbw, hr⟩ := hrel
    have HK := Lib.hid hgk
    have HR := Lib.hid hr
    have HBW := Lib.hid hbw
    have d0 : wr.cell? ⟨W.heap.size, 0, none⟩ = some (.int .u32 pb) := box_below hbw rfl rfl
    have d1 : wr.cell? ⟨W.heap.size, 1, none⟩ = some (.int .i64 ps) := box_below hbw rfl rfl
    have HB0 : Hid (Below W.heap.size W wr) := Lib.hid (((Below.refl _ _).alloc (Nat.le_refl _) _).trans (hbw.mono (Nat.le_succ _)))
    clear hgk hbw hr
    by_cases hlt : k < cs.length
    · obtain ⟨x, hx⟩ : ∃ x, cs[k]? = some x := ⟨cs[k]'hlt, by simp⟩
      obtain ⟨b, o, rfl, _, hr2⟩ := (H.out.below HB0.out).get hx
      have f0 := hr2 0 _ rfl
      have f1 := hr2 1 _ rfl
      rw [Nat.add_zero] at f0
      have HSX := Lib.hid (HST.out k x hx)
      have hk0 : (0 : Int) ≤ (k : Int) := by omega
      have hk1 : (k : Int) < (cs.length : Int) := by omega
      have hpe := pair_eq (x := x.1) (y := (pb, ps))
      obtain ⟨⟨xb, xs⟩, xl⟩ := x
      simp only at *
      clear hr2 hx
      rcases hpe with ⟨t1, he⟩ | ⟨t1, hne⟩
      · have HF : Hid (r = (k : Int)) := Lib.hid (by rw [HR.out, HSX.out, if_pos he])
        clear he
        go_wp2_with fail
        go_quiet (fail)
        go_wp2_with fail
        go_ret
        exact ⟨by rw [HF.out]; rfl, below_drewN HB0.out _⟩
      · have HF : Hid (r = atGo (cs.drop (k + 1)) (pb, ps) (k + 1)) := Lib.hid (by rw [HR.out, HSX.out, if_neg hne])
        clear hne
        go_wp2_with fail
        go_quiet (fail)
        go_wp2_with fail
        go_roundg (cs.length - (k + 1))
        case measure => rw [HK.out]; omega
        case rel => exact ⟨k + 1, by omega, rfl, by go_num, below_drewN HBW.out _, HF.out⟩
    · obtain rfl : k = cs.length := by omega
      have HF : Hid (r = -1) := Lib.hid (by rw [HR.out, HEND.out])
      go_wp2_with fail
      go_ret
      exact ⟨by rw [HF.out]; rfl, HB0.out⟩
end Go.Proofs.YtkfajeicbkeigaaDoor
