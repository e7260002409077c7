/- The walk over the reference's Do at Delete. -/
import Derived.Test.YtadagidjppgbkaaR13
import Derived.Deep.AppendLies
namespace Go.Proofs.Ytadagidjppgbkaa
open Go.RowKit Go.Maps Go.Sort
section
variable {P : Program} {w : World}
/-- append at a step of a region that draws: onto a slice of the call's own that is not nil, of whatever there is, of nothing too -/
theorem step_append_lies0 {ops : Array Oper} {o : Oper} {a : Act} {K : Act → World → Prop} {Q : Exit → Act → World → Prop} {E : Prop} (hgd : o.guard = none) (s x : Operand) (t : TypeId)
    (ho : o.op = .call { callee := .builtin .append, args := #[s, x], argTypes := #[t, t] })
    (base : Nat) (e : TypeId) (i : TypeInfo) (z : Value) (size bytes : Nat) (ht : P.underlying t = some (.slice e)) (hi : P.info? e = some i) (hz : i.zero = some z)
    (hsize : i.size = size) (hby : i.bytes = bytes) (hzs : z.cells.size = size) (hsz : 0 < size)
    (g0 n c0 : Nat) (xs : List Value) (hs : a.eval s = .slice (some ⟨g0, 0, none⟩) n c0) (hown : w.ownsRow base e size (.slice (some ⟨g0, 0, none⟩) n c0) n xs)
    (ad : Addr) (m c : Nat) (news : List Value) (hx : a.eval x = .slice (some ad) m c) (hl : news.length = m * size) (hnews : ∀ j u, news[j]? = some u → w.cell? (ad.add j) = some u) (h1 : ∀ u ∈ news, u.oneCell' = true)
    (h63 : n + m ≤ maxLen) (hbytes : (n + m) * bytes ≤ 140737488355328) (hbase : base ≤ w.heap.size)
    (h : ∀ g cap w', w'.ownsRow base e size (.slice (some ⟨g, 0, none⟩) (n + m) cap) (n + m) (xs ++ news) → w.grownBy w' (some g0) → K (a.put o.dst (.slice (some ⟨g, 0, none⟩) (n + m) cap)) w') :
    if Region.wanted o (yielded ops a.tmps) = true then Oper.wp P o a w K Q else E := by
  have hw : Region.wanted o (yielded ops a.tmps) = true := by simp [Region.wanted, hgd]
  rw [if_pos hw]
  obtain ⟨v', w', hr, h2, h3, h4, h5⟩ := run_append_own_at (P := P) w base t o.type e i z size bytes ht hi hz hsize hby hzs hsz _ n xs hown ad m c news hl hnews h1 h63 hbytes hbase
  rcases h2.2 with ⟨hv, h0⟩ | ⟨g, cap, cur, hv, _⟩
  · exact absurd (h4.1 hv).1 (by simp)
  · subst hv
    unfold Oper.wp execOp
    simp only [ho, resolve, invoke, builtin, Sem.run_bind, Sem.run_pure, Result.andThen_ok, List.map_toArray, List.map_cons, List.map_nil, hs, hx, hr]
    exact h g cap w' h2 h3
end
theorem below_drew {B : Nat} {a w : World} (h : Below B a w) : Below B a w.drew := ⟨h.os, h.tape, h.output, h.size, h.block⟩
theorem rowsL_take_drop (L : List Named) (k : Nat) : rowsL (L.take k) ++ rowsL (L.drop (k + 1)) = rowsL (L.eraseIdx k) := by
  rw [← rowsL_append, List.eraseIdx_eq_take_drop_succ]
set_option maxRecDepth 100000 in
set_option maxHeartbeats 2000000 in
theorem refDo_delete {w : World} {g b : Nat} {A : Option Addr} {c : Nat} (r : Rm) (hL : Nms w g b A r.L.length r.L) (hn : r.L.length ≤ 1000000) (hnc : r.L.length ≤ c) (hcc : c ≤ 9223372036854775807)
    (hg : g < w.heap.size) (hb : b < w.heap.size) (nm da : ByteArray) (k : Nat) (hk : k < r.L.length) (hk2 : atN r.L nm 0 = (k : Int)) (hop : r.op = false) :
    Calls Try.prog 12 #[.agg (rmA A c r), callV 6 nm da] w (RdPost g b A r.L ⟨r.L.eraseIdx k, false, ByteArray.empty, ByteArray.empty⟩ 0 ByteArray.empty [] w) := by
  obtain ⟨i0, hi, hz0, hz1, hz2⟩ := info_parts info49
  have I0 := Lib.hid hi
  have Z0 := Lib.hid hz0
  have S0 := Lib.hid hz1
  have Y0 := Lib.hid hz2
  have hAt : Hid (∀ W, Below w.heap.size w W → Calls Try.prog 17 #[.agg (rmA A c r), .string nm] W fun e w' => e = .returned (.int .i64 (atN r.L nm 0)) ∧ Below W.heap.size W w') := fun W hb => (refAt (c := c) r (hL.below hb) hn nm).mono fun e w' ⟨he, hw⟩ => ⟨he, by rw [hw]; exact (Below.refl _ _).alloc (Nat.le_refl _) _⟩
  rw [hk2] at hAt
  obtain ⟨rr, o, hAe, hrl, hr1, hr2, hc⟩ := hL.2.2 (by omega)
  subst hAe
  have HNW1 : Hid (∀ W, Below w.heap.size w W → ∀ j u, (rowsL (r.L.take k))[j]? = some u → W.cell? ((⟨rr, o, none⟩ : Addr).add j) = some u) := by
    intro W hb j u hu
    have := (hL.below hb).cells 0 k j u
    rw [List.drop_zero] at this
    simpa using this hu
  have HNW2 : Hid (∀ W, Below w.heap.size w W → ∀ j u, (rowsL (r.L.drop (k + 1)))[j]? = some u → W.cell? ((⟨rr, o + (k + 1) * 2, none⟩ : Addr).add j) = some u) := by
    intro W hb j u hu
    have := (hL.below hb).cells (k + 1) (r.L.length - (k + 1)) j u
    rw [List.take_of_length_le (by rw [List.length_drop]; exact Nat.le_refl _)] at this
    exact this hu
  have HSZ : Hid (∀ x ∈ r.L.eraseIdx k, x.1.size ≤ maxLen ∧ x.2.size ≤ maxLen) := fun x hx => hL.2.1 x (List.mem_of_mem_eraseIdx hx)
  have HLEN : Hid ((r.L.eraseIdx k).length = r.L.length - 1) := by show _ = _; rw [List.length_eraseIdx_of_lt hk]
  have HR1 : Hid ((rowsL (r.L.take k)).length = k * 2) := by show _ = _; rw [rowsL_length, List.length_take]; omega
  have HR2 : Hid ((rowsL (r.L.drop (k + 1))).length = (r.L.length - (k + 1)) * 2) := by show _ = _; rw [rowsL_length, List.length_drop]
  have HTD := Lib.hid (rowsL_take_drop r.L k)
  have HGB := Lib.hid (And.intro hg hb)
  clear hL hg hb hc hk2 hi hz0 hz1 hz2
  obtain ⟨L, rop, rn, rb⟩ := r
  simp only [rmA, callV] at *
  subst hop
  have HLE : Hid (rowsL (L.drop (k + 1)) = [] ∨ k + 1 < L.length) := by
    by_cases h : k + 1 < L.length
    · exact .inr h
    · left; rw [List.drop_eq_nil_of_le (by omega)]; rfl
  generalize hN : L.length = N at *
  have HN := Lib.hid hN
  clear hN
  have s1 : IntKind.i64.wrap ((k : Int) + 1) = (k : Int) + 1 := IntWalk.i64_in _ (by omega)
  have s2 : (0 : Int) ≤ (k : Int) + 1 := by omega
  have s3 : ((k : Int) + 1).toNat = k + 1 := by omega
  have s4 : (k : Int) ≤ (c : Int) := by omega
  have s5 : (k : Int) + 1 ≤ (N : Int) := by omega
  have s6 : (N : Int) ≤ (c : Int) := by omega
  have HB0 := Lib.hid (Below.refl (w.heap.size + 1 + 1 + 1 + 1) (d4 w #[.slice (some ⟨rr, o, none⟩) N c, .bool false, .string rn, .string rb] #[.int .i64 6, .string nm, .string da]))
  have s0 : (0 : Int) ≤ (k : Int) := by omega
  obtain ⟨A2, hA2, hN2⟩ : ∃ A2, (if c = k + 1 then some (⟨rr, o, none⟩ : Addr) else some ⟨rr, o + (k + 1) * 2, none⟩) = some A2 ∧ Hid (∀ W, Below w.heap.size w W → ∀ j u, (rowsL (L.drop (k + 1)))[j]? = some u → W.cell? (A2.add j) = some u) := by
    by_cases h : c = k + 1
    · exact ⟨_, if_pos h, fun W _ j u hu => by
        rcases HLE.out with e | e
        · rw [e] at hu; simp at hu
        · omega⟩
    · exact ⟨_, if_neg h, HNW2.out⟩
  go_enter Try.func12, Try.ntmps12
  go_wp2_with fail
  refine Calls.mono (hAt.out _ ?hbA1) ?_
  case hbA1 => exact d4_below w _ _
  rintro e w1 ⟨rfl, hb1⟩
  have HB1 := Lib.hid (HB0.out.trans (hb1.mono (by rw [World.size_alloc, World.size_alloc, World.size_alloc, World.size_alloc]; exact Nat.le_refl _)))
  have HSZ1 : Hid (w.heap.size + 1 + 1 + 1 + 1 ≤ w1.heap.size) := by show _ ≤ _; rw [← d4_size]; exact HB1.out.size
  have HBB := Lib.hid (d4_heap HB1.out).2.2.2
  clear hb1
  obtain ⟨⟨c0, c1, c2, c3⟩, ⟨e0, e1, e2⟩, ⟨z0, z1, z2, z3⟩, ⟨y0, y1, y2⟩, ⟨f0, f1, f2, f3⟩, ⟨q0, q1, q2⟩⟩ := d4_cells HB1.out
  have HBX : Hid (Below (w.heap.size + 1 + 1 + 1 + 1) (d4 w #[.slice (some ⟨rr, o, none⟩) N c, .bool false, .string rn, .string rb] #[.int .i64 6, .string nm, .string da]) (w1.alloc (.cells #[] 49))) := HB1.out.alloc HSZ1.out _
  have HBY : Hid (Below w.heap.size w (w1.alloc (.cells #[] 49))) := HBB.out.alloc HBB.out.size _
  have hM := made49 w1
  have HM := Lib.hid hM
  clear hM
  go_wp2_with fail
  go_region_held3 (fun w' => w'.cell? ⟨w.heap.size, 0, none⟩ = some (.slice (some ⟨rr, o, none⟩) N c)) (first | with_reducible assumption | ((repeat rw [cell_set_oth _ _ _ _ _ _ (by omega)]) <;> with_reducible assumption) | go_keep)
      (first
        | (refine step_append_lies0 rfl (.tmp 101) (.tmp 105) _ rfl w1.heap.size 49 i0 _ 2 32 Try.underlying25 I0.out Z0.out S0.out Y0.out rfl (by decide) w1.heap.size 0 0 [] (by rfl) (by exact HM.out) ⟨rr, o, none⟩ k c (rowsL (L.take k)) (by rfl) HR1.out (HNW1.out _ (below_drew HBY.out)) (rowsL_one _) (by simp only [maxLen]; omega) (by omega) (by simp) ?_
           intro gA capA wA hoA hgA
           have HBA : Hid (Below (w.heap.size + 1 + 1 + 1 + 1) (d4 w #[.slice (some ⟨rr, o, none⟩) N c, .bool false, .string rn, .string rb] #[.int .i64 6, .string nm, .string da]) wA) := (below_drew HBX.out).grown hgA (by have := HSZ1.out; simp; omega) (fun q hq => by injection hq with hq; subst hq; exact HSZ1.out)
           have HOA := Lib.hid hoA
           have HSA : Hid (w1.heap.size ≤ wA.heap.size) := by have := hgA.size; simp at this; exact Nat.le_of_succ_le this
           clear hoA hgA
           obtain ⟨⟨c0, c1, c2, c3⟩, ⟨e0, e1, e2⟩, ⟨z0, z1, z2, z3⟩, ⟨y0, y1, y2⟩, ⟨f0, f1, f2, f3⟩, ⟨q0, q1, q2⟩⟩ := d4_cells HBA.out)
        | (refine step_append_lies0 rfl (.tmp 106) (.tmp 111) _ rfl w1.heap.size 49 i0 _ 2 32 Try.underlying25 I0.out Z0.out S0.out Y0.out rfl (by decide) gA (0 + k) capA _ (by rfl) (by exact HOA.out) A2 (N - (k + 1)) _ (rowsL (L.drop (k + 1))) (by rfl) HR2.out (hN2.out _ (d4_heap HBA.out).2.2.2) (rowsL_one _) (by simp only [maxLen]; omega) (by omega) HSA.out ?_
           intro gB capB wB hoB hgB
           have HBF : Hid (Below (w.heap.size + 1 + 1 + 1 + 1) (d4 w #[.slice (some ⟨rr, o, none⟩) N c, .bool false, .string rn, .string rb] #[.int .i64 6, .string nm, .string da]) wB) := HBA.out.grown hgB (Nat.le_trans HSZ1.out HSA.out) (fun q hq => by injection hq with hq; subst hq; exact Nat.le_trans HSZ1.out (HOA.out.lt gA rfl).1)
           have HOB := Lib.hid hoB
           clear hoB hgB
           obtain ⟨⟨c0, c1, c2, c3⟩, ⟨e0, e1, e2⟩, ⟨z0, z1, z2, z3⟩, ⟨y0, y1, y2⟩, ⟨f0, f1, f2, f3⟩, ⟨q0, q1, q2⟩⟩ := d4_cells HBF.out)
        | fail)
  go_wp2
  have hnn : k + (N - (k + 1)) = N - 1 := by omega
  have hrow : wB.ownsRow w1.heap.size 49 2 (.slice (some ⟨gB, 0, none⟩) (k + (N - (k + 1))) capB) (k + (N - (k + 1))) (rowsL (L.eraseIdx k)) := by
    have := HOB.out
    rw [List.nil_append, HTD.out, Nat.zero_add] at this
    exact this
  obtain ⟨r5, c5, hv5, hn5, hc5, hbr5, hN5⟩ := Nms.of_row (g := g) (b := b) hrow (by rw [HLEN.out, hnn]) HSZ.out (by have := HGB.out.1; have := HSZ1.out; omega) (by have := HGB.out.2; have := HSZ1.out; omega) (by simp)
  injection hv5 with e5 _ e6
  injection e5 with e5
  injection e5 with e5
  subst e5
  subst e6
  obtain ⟨m1, m2, m3⟩ := d4_end HBF.out (.slice (some ⟨gB, 0, none⟩) (k + (N - (k + 1))) capB) (.bool false) (.string ⟨#[]⟩) (.string ⟨#[]⟩) (.int .i64 0) (.string ⟨#[]⟩) (.slice none 0 0)
  have HM3 := Lib.hid m3
  unfold d4_st at m1 m2 m3
  have hs1 := HSZ1.out
  refine bodyPost_ret (results_cells2 rfl _ _ _ _ 27 39 _ _ (0, 0) (0, 0) _ _ rfl rfl m1 m2 Try.underlying27 Try.underlying39 rfl rfl info27 info39) rfl ⟨some ⟨gB, 0, none⟩, capB, .slice none 0 0, ?_, ?_, ?_, (fun e => by cases e), ?_, World.ownsRow_nil _ _ _ _, .inr (fun a ha => by injection ha with ha; rw [← ha]; show w.heap.size ≤ gB; omega), HM3.out⟩
  · simp only [rmA, HLEN.out, hnn]
    rfl
  · refine Nms.len (Nms.oth hN5 ?hsz (w.heap.size + 1 + 1) (w.heap.size + 1 + 1 + 1) (fun a ha => by injection ha with ha; rw [← ha]; show gB ≠ _; omega) (fun a ha => by injection ha with ha; rw [← ha]; show gB ≠ _; omega) (fun q h1 h2 => d4_oth w wB _ _ _ _ _ _ _ q h1 h2))
    simp
  · show (L.eraseIdx k).length ≤ capB
    rw [HLEN.out]; omega
  · unfold maxLen at hc5; omega
end Go.Proofs.Ytadagidjppgbkaa
